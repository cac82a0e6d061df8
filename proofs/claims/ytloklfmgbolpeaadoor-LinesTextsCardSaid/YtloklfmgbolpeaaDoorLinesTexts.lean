/-
  What is proved: LinesTexts returns true for every graph that may come in, and what came in reads behind it as before; the card ties the three tables that the row lists to the program's text. Its conditions are the statement's own; nothing is assumed beside them.
-/
import Derived.Test.YtloklfmgbolpeaaDoorRows
import Derived.Test.YtloklfmgbolpeaaDoorCards
import Derived.Test.YtloklfmgbolpeaaDoorTie
import Derived.WalkKit
import Derived.ProofKit
import Derived.OpenShut
import Derived.ShutString
import Derived.ChangeOld
import Derived.Below
import Derived.LaidMore
import Derived.Stop.Joined
import Derived.Test.YtloklfmgbolpeaaDoorOpen
import Derived.Test.YtloklfmgbolpeaaDoorCame
import Derived.Test.YtloklfmgbolpeaaDoorTxtLaw
import Derived.Lib.LaidTab
namespace Go.Proofs.YtloklfmgbolpeaaDoor.linesTexts
set_option linter.unusedSimpArgs false
open Go.ChangeShapes Go.WideShapes Go.ChangeAt Go.RowKit
open Go.ChangeMaps (open_string shut_string)
open Go.Am (AH AV IsRowE CameE ofBytes Rep VR VRs law_of_C okWide_spot GL St0)
set_option linter.unusedVariables false

theorem own : ownKnob Tryd.prog.godebug = none := by kernel_rfl
theorem laidOut : laidOutB Tryd.prog = true := by kernel_rfl

/-- The door's own heap meets the condition: three closed facts. -/
theorem door_met (os : Os) (args : Array Value) : laidMetH Tryd.prog Rows.linesTextsRow.laid ((World.doorLaid Tryd.prog 24 os).forCall (fun _ _ => 0) ⟨#[], args, []⟩).memory :=
  laidMetH_of_parts3 (fuel := 8) (laidMet_of_run' 8 (by kernel_rfl) (by kernel_rfl)) (by kernel_rfl) (by kernel_rfl)

theorem gPow : Tryd.prog.globalNamed "internal/strconv.uint64pow10" = some 0 := by kernel_rfl
theorem tPow : (Tryd.prog.globals[0]?).map (·.type) = some 74 := by kernel_rfl
theorem cells74 : Tryd.prog.cellsOf 74 = 20 := by kernel_rfl

/-- What the row's list gives: the table of the powers of ten. -/
theorem of_laid {W : World} (h : laidMetH Tryd.prog Rows.linesTextsRow.laid W) : ∀ i, i < powZ.length → W.cell? ⟨0, i, none⟩ = some (.int .u64 (powZ.getD i 0)) := by
  rw [MakeChecks.laidMetH_plain _ _ _ (by kernel_rfl)] at h
  obtain ⟨ps, ⟨_, _, _, _, _, _, _, _, _, _, ⟨_, _, _, _, _, _, _, _, _, _, ⟨g, t, cs, fu, p, q, hg, ht, hvar, hd, _, _⟩, _⟩, _⟩, _⟩ := h
  obtain rfl := Option.some.inj (gPow.symm.trans hg)
  obtain rfl := Option.some.inj (tPow.symm.trans ht)
  have hT : Lib.TabIs Tryd.prog W "internal/strconv.uint64pow10" .u64 powZ := by
    unfold Lib.TabIs
    rw [hvar, ← Lib.cells_of_tab Tryd.underlying74 Tryd.underlying66 (by kernel_rfl) cells74 hd]
  exact fun i hi => hT.cell gPow i hi

/-- The Go text returns true, and writes nothing that was there. -/
theorem walk (n : Int) (a0 : Option Addr) (len0 cap0 : Nat) (z0 : List Int) (w : World) (w0 : IsRowE .i64 2 w a0 len0 cap0 z0) (s0 : ∀ x, a0 = some x → x.spot = none) (hL : laidMetH Tryd.prog Rows.linesTextsRow.laid w) :
    Calls Tryd.prog 3 #[.agg #[.int .i64 n, .slice a0 len0 cap0]] w fun e w' => e = .returned (.bool true) ∧ Below w.heap.size w w' := by
  obtain ⟨σ0, h0, st, hpow, _⟩ := (St0.zero Tryd.prog w).lay (g := 0) (by decide) (by decide) (of_laid hL)
  obtain ⟨σ1, h1, v1, l1, r1, n1, g1, hv1, hc1⟩ := st.rep.rowE rfl (by decide) w0 s0
  have h8 : 0 < h0.next := by rw [st.nx]; decide
  have hp1 : ∃ ro, h1.get 0 = some (.cells pow10 1 ro) := ⟨true, by rw [g1 0 h8, hpow]; rfl⟩
  refine law_of_C mixed det (texts_law (v := n) (came_edges hc1) hp1 (by omega)) r1 (st.gl.mono l1) ?_
  simp only [VRs]
  refine ⟨_, _, rfl, ?_, rfl⟩
  simp only [VR]
  refine ⟨[.int .i64 n, .slice a0 len0 cap0], rfl, ?_⟩
  simp only [VRs]
  exact ⟨_, _, rfl, by simp [VR], _, _, rfl, hv1, rfl⟩

set_option maxRecDepth 100000 in
theorem lifted (os : Os) (started : os.Started) (H : Type) (enc : TypeId × Value → H) :
    ReturnsInHanded {} Tryd.checked os 3 .any (fun w args => (Rows.linesTextsSpec.pre enc Tryd.prog Tryd.f3 [] false w args ∧ laidMetH Tryd.prog Rows.linesTextsRow.laid w) ∧ sizedMet enc Tryd.prog Tryd.f3 (OpenSpec.ofChange Rows.linesTextsSpec) false w args)
      (Rows.linesTextsSpec.post enc Tryd.prog Tryd.f3 false true false false) := by
  refine returnsInHanded_of_change_and (C := Tryd.checked) (X := fun w _ => laidMetH Tryd.prog Rows.linesTextsRow.laid w) (fun _ _ _ hh h => h.of_heap hh) own started (by kernel_rfl) Tryd.func3
    (ChangeSpec.witness_shaped (enc := enc) (C := Tryd.checked) (os := os) (X := fun w _ => laidMetH Tryd.prog Rows.linesTextsRow.laid w) false (World.doorLaid Tryd.prog 24 os) #[.agg #[.int .i64 0, .slice none 0 0]] 8 rfl (World.shaped_of_RefB (by kernel_rfl) (by kernel_rfl)) (by kernel_rfl) (by kernel_rfl) (by kernel_rfl) (door_met os _)) ?_
  intro W base args ds gs before hval0 hW _ _ hL _
  have hval : ∀ (j : Nat) t v, Tryd.f3.params[j]? = some t → args[j]? = some v → Value.okWide Tryd.prog W .any base t v := hval0
  have hW' := hW
  obtain ⟨p, q, hA0, hV, rfl, hfz, hnd⟩ := hW
  have hA : DataW.TrodAll enc Tryd.prog W 0 (fun _ => true) true Tryd.f3.params.toList args.toList ds p := hA0
  rw [Tryd.params3] at hA hval
  obtain ⟨v0, vs0, d0, ds0, p0, q0, hargs, rfl, rfl, h0, r0⟩ := trodAll_cons hA
  obtain ⟨rfl, rfl, rfl⟩ := trodAll_nil r0
  obtain rfl : args = #[v0] := by cases args; simp_all
  obtain ⟨rfl, rfl⟩ := trodVars_none hV
  obtain ⟨n, a0, len0, cap0, z0, rfl, w0, s0⟩ := open_graph (hval 0 24 v0 rfl rfl) h0
  have k0 := h0
  have lt0 : ∀ x ∈ p0, x.block < W.heap.size := by obtain ⟨m, hm⟩ := k0; exact DataW.trod_lt m _ _ _ hm
  clear hA0 hval0
  refine (walk n a0 len0 cap0 z0 W w0 s0 hL).mono fun e W' ⟨he, bel⟩ => ?_
  subst he
  exact ⟨_, rfl, _, _, _, [], _, [], hW', trodAll_mk1 (shut_bool Tryd.underlying4 _), (trodAll_cons_mk (Below.trod laidOut (by kernel_rfl) (of_decide_eq_true (by kernel_rfl)) k0 bel lt0) trodAll_mk0), rfl, bel.frame _, fun h => by cases h⟩

theorem said : Rows.LinesTextsSaid :=
  OpenClaim.holds_of_wide 3 Tryd.f3 rfl rfl rfl rfl rfl rfl rfl ⟨rfl, rfl, rfl, rfl, rfl⟩ rfl rfl rfl rfl rfl (by kernel_rfl) Tryd.func3 (by kernel_rfl)
    (of_decide_eq_true (by kernel_rfl)) (by unfold Func.isWrapper; first | (rw [if_pos (by decide +kernel)]; kernel_rfl) | (rw [if_neg (by decide +kernel)]; exact ⟨rfl, rfl⟩))
    (fun os started H enc _ => lifted os started H enc)

/-- No parameter wants a stand-in; the program's own looks are off: what the card asks. -/
theorem plain (f : FuncId) (fn : Func) (hf : Tryd.pinned.checked.prog.funcNamed "arbor/arborlaw01.LinesTexts" = some f) (hfn : Tryd.pinned.checked.prog.funcs[f]? = some fn) :
    false = Tryd.pinned.checked.prog.looks [] ∧ ∀ (j : Nat) t, fn.params[j]? = some t → Tryd.pinned.checked.prog.wantsStandIn t = false := by
  obtain rfl : f = 3 := Option.some.inj ((show Tryd.prog.funcNamed "arbor/arborlaw01.LinesTexts" = some 3 by kernel_rfl).symm.trans hf) |>.symm
  obtain rfl : fn = Tryd.f3 := (Option.some.inj (Tryd.func3.symm.trans hfn)).symm
  refine ⟨by kernel_rfl, fun j t ht => ?_⟩
  rw [Tryd.params3] at ht
  have h3 : t = 24 := by simpa using Array.mem_of_getElem? ht
  subst h3
  exact (show Tryd.prog.wantsStandIn 24 = false by kernel_rfl)

/-- ████ THE STATEMENT ████ -/
theorem proved : Rows.LinesTextsCardSaid :=
  Claim7.holds_tied_plain_at .later [] _ _ _ _ said (fun _ h => by cases h) (by kernel_rfl) (fun _ h => by cases h) linesTexts_row_tie rfl ⟨rfl, rfl⟩ (by kernel_rfl) rfl plain (by kernel_rfl)
#print axioms proved
end Go.Proofs.YtloklfmgbolpeaaDoor.linesTexts
