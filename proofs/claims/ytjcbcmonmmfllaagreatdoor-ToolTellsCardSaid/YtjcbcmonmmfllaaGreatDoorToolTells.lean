/-
  What is proved: ToolTells returns true for every kind, code, place, vertices and rows of bytes that may come in: what tool.Tell tells is what the definition tells; the example of the document is carried out by the kernel, and what came in reads behind it as before; the card ties the three tables that the row lists to the program's text. Its conditions are the statement's own; nothing is assumed beside them.
-/
import Derived.Test.YtjcbcmonmmfllaaGreatDoorRows
import Derived.Test.YtjcbcmonmmfllaaGreatDoorCards
import Derived.Test.YtjcbcmonmmfllaaGreatDoorTie
import Derived.WalkKit
import Derived.ProofKit
import Derived.OpenShut
import Derived.ShutString
import Derived.ChangeOld
import Derived.Below
import Derived.LaidMore
import Derived.Stop.Joined
import Derived.Deep.Matrix
import Derived.Test.YtjcbcmonmmfllaaGreatDoorStart
import Derived.Lib.LaidTab
namespace Go.Proofs.YtjcbcmonmmfllaaGreatDoor.toolTells
set_option linter.unusedSimpArgs false
open Go.ChangeShapes Go.WideShapes Go.ChangeAt Go.RowKit
open Go.ChangeMaps (open_string shut_string)
open Go.Am (AH AV AO IsRowE ofBytes Rep VR VRs law_of_C okWide_spot GL St0 NRow news)
set_option linter.unusedVariables false

theorem own : ownKnob Tryz.prog.godebug = none := by kernel_rfl
theorem laidOut : laidOutB Tryz.prog = true := by kernel_rfl

/-- The door's own heap meets the condition: three closed facts. -/
theorem door_met (os : Os) (args : Array Value) : laidMetH Tryz.prog Rows.toolTellsRow.laid ((World.doorLaid Tryz.prog 24 os).forCall (fun _ _ => 0) ⟨#[], args, []⟩).memory :=
  laidMetH_of_parts3 (fuel := 8) (laidMet_of_run' 8 (by kernel_rfl) (by kernel_rfl)) (by kernel_rfl) (by kernel_rfl)

theorem gPow : Tryz.prog.globalNamed "internal/strconv.uint64pow10" = some 0 := by kernel_rfl
theorem tPow : (Tryz.prog.globals[0]?).map (·.type) = some 210 := by kernel_rfl
theorem cells210 : Tryz.prog.cellsOf 210 = 20 := by kernel_rfl

/-- What the row's list gives: the table of the powers of ten. -/
theorem of_laid {W : World} (h : laidMetH Tryz.prog Rows.toolTellsRow.laid W) : ∀ i, i < powZ.length → W.cell? ⟨0, i, none⟩ = some (.int .u64 (powZ.getD i 0)) := by
  rw [MakeChecks.laidMetH_plain _ _ _ (by kernel_rfl)] at h
  obtain ⟨ps, ⟨_, _, _, _, _, _, _, _, _, _, ⟨_, _, _, _, _, _, _, _, _, _, ⟨g, t, cs, fu, p, q, hg, ht, hvar, hd, _, _⟩, _⟩, _⟩, _⟩ := h
  obtain rfl := Option.some.inj (gPow.symm.trans hg)
  obtain rfl := Option.some.inj (tPow.symm.trans ht)
  have hT : Lib.TabIs Tryz.prog W "internal/strconv.uint64pow10" .u64 powZ := by
    unfold Lib.TabIs
    rw [hvar, ← Lib.cells_of_tab Tryz.underlying210 Tryz.underlying138 (by kernel_rfl) cells210 hd]
  exact fun i hi => hT.cell gPow i hi

/-- The bytes of a row. -/
def byts (r : NRow) : List UInt8 := (r.zs.take r.len).map fun n => UInt8.ofNat n.toNat

theorem at_byts {h : AH} {v : AV} {r : NRow} (hw : ∀ n ∈ r.zs, (Lit.int .u8 n).wf = true) (hl : r.len ≤ r.zs.length) (ha : r.at h .u8 v) : Byts h v (byts r) := by
  rcases ha with ⟨h1, h2⟩ | ⟨b, h1, h2⟩
  · exact .inl ⟨by unfold byts; rw [h2]; rfl, h1⟩
  · refine .inr ⟨b, r.len, true, h1, ?_, by unfold byts; rw [List.length_map, List.length_take]; omega⟩
    rw [h2]
    congr 2
    simp only [byts, ofBytes, List.map_map]
    refine List.map_congr_left fun n hn => ?_
    have := hw n (List.mem_of_mem_take hn)
    simp only [Lit.wf, Bool.and_eq_true, decide_eq_true_eq] at this
    have h2 : 0 ≤ n ∧ n ≤ 255 := this
    simp only [Function.comp]
    congr 1
    rw [UInt8.toNat_ofNat']
    omega

theorem Byts.keep {h h' : AH} {v : AV} {bs : List UInt8} (hk : ∀ b o, h.get b = some o → h'.get b = some o) (hb : Byts h v bs) : Byts h' v bs := by
  rcases hb with hb | ⟨b, m, ro, h1, h2, h3⟩
  · exact .inl hb
  · exact .inr ⟨b, m, ro, h1, hk _ _ h2, h3⟩

theorem mem_keep {h h' : AH} {vv cv : AV} {ns : List Int} {cs : List (List UInt8)} (hn : 0 < h'.next) (hk : ∀ b o, h.get b = some o → h'.get b = some o) (hm : Mem h vv cv ns cs) : Mem h' vv cv ns cs := by
  obtain ⟨a, b, ⟨ro, c⟩, d⟩ := hm
  refine ⟨?_, ?_, ⟨ro, hk _ _ c⟩, hn⟩
  · rcases a with a | ⟨b, m, ro, h1, h2, h3⟩
    · exact .inl a
    · exact .inr ⟨b, m, ro, h1, hk _ _ h2, h3⟩
  · rcases b with b | ⟨b, m, ro, vs, h1, h2, h3, h4, h5⟩
    · exact .inl b
    · exact .inr ⟨b, m, ro, vs, h1, hk _ _ h2, h3, h4, fun i x bs a b => Byts.keep hk (h5 i x bs a b)⟩

/-- The rows of bytes that came in. -/
structure Certs (w : World) (a : Option Addr) (len cap : Nat) (rows : List NRow) : Prop where
  spot : ∀ x, a = some x → x.spot = none
  none_ : a = none → len = 0 ∧ cap = 0
  le : len ≤ cap
  length : rows.length = cap
  cells : ∀ x, a = some x → ∀ (i : Nat) (r : NRow), rows[i]? = some r → w.cell? (x.add i) = some (.slice r.a r.len r.cap)
  ok : ∀ r ∈ rows, r.ok w .u8
  wf : ∀ r ∈ rows, ∀ n ∈ r.zs, (Lit.int .u8 n).wf = true

theorem lay_certs {w : World} {a : Option Addr} {len cap : Nat} {rows : List NRow} (hc : Certs w a len cap rows) {D : List Nat} {σ : Am.Sg} {h : AH} (r : Rep ⟨w.heap.size, w, Tryz.prog, D⟩ σ h w) :
    ∃ (σ' : Am.Sg) (os : List AO) (oc : AO) (cv : AV), os.length = 10 ∧ σ.le σ' ∧ Rep ⟨w.heap.size, w, Tryz.prog, D⟩ σ' ((news os h).new oc) w ∧ VR σ' cv (.slice a len cap) ∧ Am.lenLA cv = some (.int .i64 (len : Nat)) ∧
      (len ≤ 10 → CertsAt ((news os h).new oc) cv ((rows.take len).map byts)) := by
  cases a with
  | none =>
    obtain ⟨rfl, rfl⟩ := hc.none_ rfl
    obtain ⟨σ1, os, vs, a1, a2, a3, a4, a5⟩ := Rep.rows (k := .u8) rfl 10 [] r (Nat.zero_le _) (fun r hr => by cases hr)
    obtain ⟨σ2, b1, b2⟩ := a4.dummy
    exact ⟨σ2, os, _, .nils, a1, Am.Sg.le_trans a3 b1, b2, by simp [VR], rfl, fun _ => .inl ⟨by simp, rfl⟩⟩
  | some x =>
    have hsp := hc.spot x rfl
    by_cases hl : len ≤ 10
    · have hle := hc.le
      have hlen := hc.length
      have htl : (rows.take len).length = len := by rw [List.length_take]; omega
      obtain ⟨σ1, os, vs, a1, a2, a3, a4, a5⟩ := Rep.rows (k := .u8) rfl 10 (rows.take len) r (by omega) (fun r hr => hc.ok r (List.mem_of_mem_take hr))
      have hcell : ∀ i, i < cap → w.cell? (x.add i) = some (match rows[i]? with | some r => .slice r.a r.len r.cap | none => .bool true) := by
        intro i hi
        have : rows[i]? = some rows[i] := List.getElem?_eq_getElem (by omega)
        rw [this]
        exact hc.cells x rfl i _ this
      obtain ⟨σ2, b1, b2, b3⟩ := a4.outer rfl (vs := vs) (len := len) hsp hle (by omega) hcell (fun i v hv => by
        have hil := (List.getElem?_eq_some_iff.1 hv).1
        have h1 : i < (rows.take len).length := by omega
        have h2 : (rows.take len)[i]? = some (rows.take len)[i] := List.getElem?_eq_getElem h1
        have h3 := (a5 i v _ hv h2).1
        have h4 : rows[i]? = some (rows.take len)[i] := by
          rw [← h2, List.getElem?_take, if_pos (by omega)]
        rw [h4]
        exact h3)
      refine ⟨σ2, os, _, _, a1, Am.Sg.le_trans a3 b1, b2, b3, rfl, fun _ => .inr ⟨_, len, true, vs, rfl, by rw [AH.get_new, if_pos rfl], by rw [List.length_map]; omega, by rw [List.length_map]; omega, fun i v bs hv hb => ?_⟩⟩
      rw [List.getElem?_map] at hb
      cases hq : (rows.take len)[i]? with
      | none => rw [hq] at hb; cases hb
      | some row =>
        rw [hq] at hb
        simp only [Option.map_some, Option.some.injEq] at hb
        subst hb
        have hm := List.mem_of_mem_take (List.mem_of_getElem? hq)
        have hk := hc.ok row hm
        have hB := at_byts (hc.wf row hm) (by obtain ⟨k1, k2, _⟩ := hk; omega) (a5 i v row hv hq).2
        rcases hB with hB | ⟨b, m, ro, h1, h2, h3⟩
        · exact .inl hB
        · exact .inr ⟨b, m, ro, h1, by rw [AH.get_new, if_neg (by have := AH.lt_of_get h2; omega)]; exact h2, h3⟩
    · obtain ⟨σ1, os, vs, a1, a2, a3, a4, a5⟩ := Rep.rows (k := .u8) rfl 10 [] r (Nat.zero_le _) (fun r hr => by cases hr)
      obtain ⟨σ2, b1, b2, b3⟩ := a4.outer0 (len := len) hsp hc.le
      exact ⟨σ2, os, _, _, a1, Am.Sg.le_trans a3 b1, b2, b3, rfl, fun q => absurd q hl⟩

/-- The Go text returns true, and writes nothing that was there. -/
theorem walk (k code at_ : Int) (l1 : I64 code) (l2 : I64 at_) (a0 a1 : Option Addr) (len0 cap0 len1 cap1 : Nat) (z0 : List Int) (rows : List NRow) (w : World) (w0 : IsRowE .i64 1 w a0 len0 cap0 z0) (hc : Certs w a1 len1 cap1 rows) (hL : laidMetH Tryz.prog Rows.toolTellsRow.laid w) :
    Calls Tryz.prog 3 #[.int .i64 k, .int .i64 code, .int .i64 at_, .slice a0 len0 cap0, .slice a1 len1 cap1] w fun e w' => e = .returned (.bool true) ∧ Below w.heap.size w w' := by
  obtain ⟨σ0, st⟩ := (St0.zero Tryz.prog w).layX (g := 0) (by decide) (by decide) (of_laid hL)
  obtain ⟨σ1, os, oc, cv, a1', l1', r1, v1, n1, c1⟩ := lay_certs hc st.rep
  have hrow : len0 ≤ cap0 ∧ z0.length = cap0 ∧ (a0 = none → cap0 = 0) ∧ (∀ x, a0 = some x → ∀ i, i < cap0 → w.cell? (x.add i) = some (.int .i64 (z0.getD i 0))) ∧ ∀ n ∈ z0, (Lit.int .i64 n).wf = true := by
    rcases w0 with ⟨rfl, rfl, rfl, rfl⟩ | ⟨x, rfl, h1, h2, h3, h4, h5⟩
    · exact ⟨Nat.le_refl _, rfl, fun _ => rfl, (fun x hx => by cases hx), by simp⟩
    · rw [Nat.mul_one] at h3
      exact ⟨h1, h3, (fun h => by cases h), (fun y hy i hi => by cases hy; exact h4 i (by omega)), h5⟩
  obtain ⟨q1, q2, q3, q4, q5⟩ := hrow
  obtain ⟨σ2, ov, vv, b1, b2, b3, b4⟩ := r1.rowB rfl q1 q2 q3 q4
  have hns : ∀ n ∈ z0.take len0, I64 n := by
    intro n hn
    have := q5 n (List.mem_of_mem_take hn)
    simp only [Lit.wf, Bool.and_eq_true, decide_eq_true_eq] at this
    have h2 : -9223372036854775808 ≤ n ∧ n ≤ 9223372036854775807 := this
    exact ⟨by omega, by omega⟩
  have hztl : (z0.take len0).length = len0 := by rw [List.length_take]; omega
  have hvl : Am.lenLA vv = some (.int .i64 (len0 : Nat)) := by
    rcases b4 with ⟨h1 | h1, h2⟩ | ⟨h1, _⟩
    · subst h1 h2; rfl
    · subst h1 h2; rfl
    · subst h1; rfl
  have hH : began (.cells (powZ.map (AV.int .u64)) 1 true) os oc ov = ((news os (AH.zero.put 0 (.cells (powZ.map (AV.int .u64)) 1 true))).new oc).new ov := rfl
  have hmem : len0 ≤ 100 → len1 ≤ 10 → Mem (began (.cells (powZ.map (AV.int .u64)) 1 true) os oc ov) vv cv (z0.take len0) ((rows.take len1).map byts) := by
    intro _ h10
    rw [hH]
    have h0g : ((news os (AH.zero.put 0 (.cells (powZ.map (AV.int .u64)) 1 true))).new oc).next = 19 := by
      rw [AH.next_new, Am.news_next, a1']
      rfl
    refine ⟨?_, ?_, ⟨true, ?_⟩, by rw [AH.next_new, h0g]; decide⟩
    · rcases b4 with ⟨h1, h2⟩ | ⟨h1, h2⟩
      · exact .inl ⟨by rw [h2]; rfl, h1⟩
      · exact .inr ⟨_, _, true, h1, by rw [AH.get_new, if_pos rfl, h2], hztl.symm⟩
    · rcases c1 h10 with c1 | ⟨b, m, ro, vs, h1, h2, h3, h4, h5⟩
      · exact .inl c1
      · have keep : ∀ b o, ((news os (AH.zero.put 0 (.cells (powZ.map (AV.int .u64)) 1 true))).new oc).get b = some o → (((news os (AH.zero.put 0 (.cells (powZ.map (AV.int .u64)) 1 true))).new oc).new ov).get b = some o := fun b o hb => by
          rw [AH.get_new, if_neg (by have := AH.lt_of_get hb; omega)]; exact hb
        exact .inr ⟨b, m, ro, vs, h1, keep _ _ h2, h3, h4, fun i x bs a b => Byts.keep keep (h5 i x bs a b)⟩
    · rw [AH.get_new, if_neg (by rw [h0g]; decide), AH.get_new, if_neg (by rw [Am.news_next, a1']; decide), Am.news_get _ _ _ (by decide), AH.get_put _ _ _ _ (by decide), if_pos rfl]
      rfl
  have hsp := speaks_ok (T := .cells (powZ.map (AV.int .u64)) 1 true) (oc := oc) (ov := ov) a1'
  have law := tells_law (k := k) l1 l2 hns hvl n1 (hsp.mono fun v h' ⟨e1, e2, e3⟩ => ⟨e1, fun p q => mem_keep e2 e3 (hmem p q)⟩)
  refine law_of_C mixed det law b2 ((st.gl.mono l1').mono b1) ?_
  simp only [VRs]
  exact ⟨_, _, rfl, by simp [VR], _, _, rfl, by simp [VR], _, _, rfl, by simp [VR], _, _, rfl, b3, _, _, rfl, Am.VR.mono b1 _ _ v1, rfl⟩

set_option maxRecDepth 100000 in
theorem lifted (os : Os) (started : os.Started) (H : Type) (enc : TypeId × Value → H) :
    ReturnsInHanded {} Tryz.checked os 3 .any (fun w args => (Rows.toolTellsSpec.pre enc Tryz.prog Tryz.f3 [] false w args ∧ laidMetH Tryz.prog Rows.toolTellsRow.laid w) ∧ sizedMet enc Tryz.prog Tryz.f3 (OpenSpec.ofChange Rows.toolTellsSpec) false w args)
      (Rows.toolTellsSpec.post enc Tryz.prog Tryz.f3 false true false false) := by
  refine returnsInHanded_of_change_and (C := Tryz.checked) (X := fun w _ => laidMetH Tryz.prog Rows.toolTellsRow.laid w) (fun _ _ _ hh h => h.of_heap hh) own started (by kernel_rfl) Tryz.func3
    (ChangeSpec.witness_shaped (enc := enc) (C := Tryz.checked) (os := os) (X := fun w _ => laidMetH Tryz.prog Rows.toolTellsRow.laid w) false (World.doorLaid Tryz.prog 24 os) #[.int .i64 0, .int .i64 0, .int .i64 0, .slice none 0 0, .slice none 0 0] 8 rfl (World.shaped_of_RefB (by kernel_rfl) (by kernel_rfl)) (by kernel_rfl) (by kernel_rfl) (by kernel_rfl) (door_met os _)) ?_
  intro W base args ds gs before hval0 hW _ _ hL _
  have hval : ∀ (j : Nat) t v, Tryz.f3.params[j]? = some t → args[j]? = some v → Value.okWide Tryz.prog W .any base t v := hval0
  have hW' := hW
  obtain ⟨p, q, hA0, hV, rfl, hfz, hnd⟩ := hW
  have hA : DataW.TrodAll enc Tryz.prog W 0 (fun _ => true) true Tryz.f3.params.toList args.toList ds p := hA0
  rw [Tryz.params3] at hA hval
  obtain ⟨v0, vs0, d0, ds0, p0, q0, hargs, rfl, rfl, h0, r0⟩ := trodAll_cons hA
  obtain ⟨v1, vs1, d1, ds1, p1, q1, rfl, rfl, rfl, h1, r1⟩ := trodAll_cons r0
  obtain ⟨v2, vs2, d2, ds2, p2, q2, rfl, rfl, rfl, h2, r2⟩ := trodAll_cons r1
  obtain ⟨v3, vs3, d3, ds3, p3, q3, rfl, rfl, rfl, h3, r3⟩ := trodAll_cons r2
  obtain ⟨v4, vs4, d4, ds4, p4, q4, rfl, rfl, rfl, h4, r4⟩ := trodAll_cons r3
  obtain ⟨rfl, rfl, rfl⟩ := trodAll_nil r4
  obtain rfl : args = #[v0, v1, v2, v3, v4] := by cases args; simp_all
  obtain ⟨rfl, rfl⟩ := trodVars_none hV
  obtain ⟨k, rfl, rfl, rfl, _⟩ := open_int Tryz.underlying3 (hval 0 3 v0 rfl rfl) h0
  obtain ⟨code, rfl, rfl, rfl, hw1⟩ := open_int Tryz.underlying3 (hval 1 3 v1 rfl rfl) h1
  obtain ⟨at_, rfl, rfl, rfl, hw2⟩ := open_int Tryz.underlying3 (hval 2 3 v2 rfl rfl) h2
  obtain ⟨a0, len0, cap0, rfl⟩ := okWide_slice Tryz.underlying22 (hval 3 22 v3 rfl rfl)
  obtain ⟨a1, len1, cap1, rfl⟩ := okWide_slice Tryz.underlying23 (hval 4 23 v4 rfl rfl)
  have k0 := h0
  have k1 := h1
  have k2 := h2
  have k3 := h3
  have k4 := h4
  have lt3 : ∀ x ∈ p3, x.block < W.heap.size := by obtain ⟨m, hm⟩ := k3; exact DataW.trod_lt m _ _ _ hm
  have lt4 : ∀ x ∈ p4, x.block < W.heap.size := by obtain ⟨m, hm⟩ := k4; exact DataW.trod_lt m _ _ _ hm
  have i64 : ∀ {n : Int}, (Lit.int .i64 n).wf = true → I64 n := by
    intro n h
    simp only [Lit.wf, Bool.and_eq_true, decide_eq_true_eq] at h
    have h2 : -9223372036854775808 ≤ n ∧ n ≤ 9223372036854775807 := h
    exact ⟨by omega, by omega⟩
  obtain ⟨z0, w0⟩ : ∃ zs, IsRowE .i64 1 W a0 len0 cap0 zs := by
    obtain ⟨fuel, hf⟩ := h3
    rcases open_ints Tryz.underlying22 Tryz.underlying3 (by kernel_rfl) hf with ⟨hcs, _⟩ | ⟨x, l, c, zs, hcs, _, hl, hm, hz, _, hcell, hwz⟩
    · simp [Value.cells] at hcs
      obtain ⟨rfl, rfl, rfl⟩ := hcs
      exact ⟨[], .inl ⟨rfl, rfl, rfl, rfl⟩⟩
    · simp [Value.cells] at hcs
      obtain ⟨rfl, rfl, rfl⟩ := hcs
      exact ⟨zs, .inr ⟨_, rfl, hl, hm, by simpa using hz, hcell, hwz⟩⟩
  obtain ⟨rows, hc⟩ : ∃ rows, Certs W a1 len1 cap1 rows := by
    have s1 : ∀ x, a1 = some x → x.spot = none := okWide_spot Tryz.underlying23 (hval 4 23 _ rfl rfl)
    obtain ⟨fuel, hf⟩ := h4
    rcases Deep.open_int_rows Tryz.underlying23 Tryz.underlying25 Tryz.underlying5 (by kernel_rfl) (by kernel_rfl) hf with ⟨hcs, _⟩ | ⟨x, l, c, A, Ln, Cp, Z, hcs, _, hl, hm, _, hcell⟩
    · simp [Value.cells] at hcs
      obtain ⟨rfl, rfl, rfl⟩ := hcs
      exact ⟨[], s1, fun _ => ⟨rfl, rfl⟩, Nat.le_refl _, rfl, fun x hx => (by cases hx), fun r hr => (by cases hr), fun r hr => (by cases hr)⟩
    · simp [Value.cells] at hcs
      obtain ⟨rfl, rfl, rfl⟩ := hcs
      refine ⟨(List.range cap1).map fun r => ⟨A r, Ln r, Cp r, Z r⟩, s1, fun h => (by cases h), hl, by simp, fun y hy i r hr => ?_, fun r hr => ?_, fun r hr => ?_⟩
      · cases hy
        rw [List.getElem?_map] at hr
        cases hq : (List.range cap1)[i]? with
        | none => rw [hq] at hr; cases hr
        | some j =>
          rw [hq] at hr
          have hi := (List.getElem?_eq_some_iff.1 hq).1
          have hj : j = i := by
            have := (List.getElem?_eq_some_iff.1 hq).2
            simpa using this.symm
          subst hj
          simp only [Option.map_some, Option.some.injEq] at hr
          subst hr
          exact (hcell j (by simpa using hi)).1
      · obtain ⟨j, hj, rfl⟩ := List.mem_map.1 hr
        obtain ⟨e1, e2, e3, e4, e5, e6, e7⟩ := hcell j (List.mem_range.1 hj)
        exact ⟨e2, e4, e6, fun y hy i hi => (e7 y hy).2 i hi⟩
      · obtain ⟨j, hj, rfl⟩ := List.mem_map.1 hr
        obtain ⟨e1, e2, e3, e4, e5, e6, e7⟩ := hcell j (List.mem_range.1 hj)
        exact e5
  clear hA0 hval0
  refine (walk k code at_ (i64 hw1) (i64 hw2) a0 a1 len0 cap0 len1 cap1 z0 rows W w0 hc hL).mono fun e W' ⟨he, bel⟩ => ?_
  subst he
  exact ⟨_, rfl, _, _, _, [], _, [], hW', trodAll_mk1 (shut_bool Tryz.underlying4 _), (trodAll_cons_mk (Below.trod laidOut (by kernel_rfl) (of_decide_eq_true (by kernel_rfl)) k0 bel (by simp)) (trodAll_cons_mk (Below.trod laidOut (by kernel_rfl) (of_decide_eq_true (by kernel_rfl)) k1 bel (by simp)) (trodAll_cons_mk (Below.trod laidOut (by kernel_rfl) (of_decide_eq_true (by kernel_rfl)) k2 bel (by simp)) (trodAll_cons_mk (Below.trod laidOut (by kernel_rfl) (of_decide_eq_true (by kernel_rfl)) k3 bel lt3) (trodAll_cons_mk (Below.trod laidOut (by kernel_rfl) (of_decide_eq_true (by kernel_rfl)) k4 bel lt4) trodAll_mk0))))), rfl, bel.frame _, fun h => by cases h⟩

theorem said : Rows.ToolTellsSaid :=
  OpenClaim.holds_of_wide 3 Tryz.f3 rfl rfl rfl rfl rfl rfl rfl ⟨rfl, rfl, rfl, rfl, rfl⟩ rfl rfl rfl rfl rfl (by kernel_rfl) Tryz.func3 (by kernel_rfl)
    (of_decide_eq_true (by kernel_rfl)) (by unfold Func.isWrapper; first | (rw [if_pos (by decide +kernel)]; kernel_rfl) | (rw [if_neg (by decide +kernel)]; exact ⟨rfl, rfl⟩))
    (fun os started H enc _ => lifted os started H enc)

/-- No parameter wants a stand-in; the program's own looks are off: what the card asks. -/
theorem plain (f : FuncId) (fn : Func) (hf : Tryz.pinned.checked.prog.funcNamed "arbor/arborlaw27.ToolTells" = some f) (hfn : Tryz.pinned.checked.prog.funcs[f]? = some fn) :
    false = Tryz.pinned.checked.prog.looks [] ∧ ∀ (j : Nat) t, fn.params[j]? = some t → Tryz.pinned.checked.prog.wantsStandIn t = false := by
  obtain rfl : f = 3 := Option.some.inj ((show Tryz.prog.funcNamed "arbor/arborlaw27.ToolTells" = some 3 by kernel_rfl).symm.trans hf) |>.symm
  obtain rfl : fn = Tryz.f3 := (Option.some.inj (Tryz.func3.symm.trans hfn)).symm
  refine ⟨by kernel_rfl, fun j t ht => ?_⟩
  rw [Tryz.params3] at ht
  have h3 : t = 3 ∨ t = 3 ∨ t = 3 ∨ t = 22 ∨ t = 23 := by simpa using Array.mem_of_getElem? ht
  rcases h3 with rfl | rfl | rfl | rfl | rfl
  · exact (show Tryz.prog.wantsStandIn 3 = false by kernel_rfl)
  · exact (show Tryz.prog.wantsStandIn 3 = false by kernel_rfl)
  · exact (show Tryz.prog.wantsStandIn 3 = false by kernel_rfl)
  · exact (show Tryz.prog.wantsStandIn 22 = false by kernel_rfl)
  · exact (show Tryz.prog.wantsStandIn 23 = false by kernel_rfl)

/-- ████ THE STATEMENT ████ -/
theorem proved : Rows.ToolTellsCardSaid :=
  Claim7.holds_tied_plain_at .later [] _ _ _ _ said (fun _ h => by cases h) (by kernel_rfl) (fun _ h => by cases h) toolTells_row_tie rfl ⟨rfl, rfl⟩ (by kernel_rfl) rfl plain (by kernel_rfl)
#print axioms proved
end Go.Proofs.YtjcbcmonmmfllaaGreatDoor.toolTells
