/-
  From a run of the clean machine to a call of the model; slices that came in.
-/
import Derived.Test.YtloklfmgbolpeaaDoorAmRun
import Derived.Test.YtloklfmgbolpeaaDoorAmW
import Derived.WideShapes
namespace Go.Am
set_option linter.unusedVariables false
set_option linter.unusedSimpArgs false
open Go.RowKit

theorem calls_of_bs {P : Program} {RPm : RP} (hP : Has P RPm) {f : FuncId} {args : List AV} {ts : Tm} {h : AH} {R : Out → Prop} (hb : BS RPm (.call f args) ts h R) {K : Bs} (hK : K.P = P) {σ : Sg} {w : World} {args' : Array Value}
    (r : Rep K σ h w) (hgl : GL σ) (hv : VRs σ args args'.toList) : Calls P f args' w (Gives K σ R) :=
  callsIn_wide.1 (snd hP hb K σ w args' hK r hgl hv)

/-- A program in the clean machine's form, each drawn region in one order. -/
def prgOf (P : Program) : RP := fun f => (cFunc P f).bind detF

theorem det_of (P : Program) : Det (fun f => cFunc P f) (prgOf P) := fun _ _ h => Option.bind_eq_some_iff.1 h

theorem has_of {P : Program} (h : P.follows .mixedOrders = true) : Has P (fun f => cFunc P f) := ⟨fun _ _ h => h, h⟩

/-- A law that answers true, and what was there stays. -/
theorem law_of_bs {P : Program} {RPm : RP} (hP : Has P RPm) {f : FuncId} {args : List AV} {ts : Tm} {h : AH} (hb : BS RPm (.call f args) ts h fun o => ∃ v h', o = .val v h' ∧ v = .bool true) {D : List Nat} {σ : Sg} {w : World} {args' : Array Value}
    (r : Rep ⟨w.heap.size, w, P, D⟩ σ h w) (hgl : GL σ) (hv : VRs σ args args'.toList) : Calls P f args' w fun e w' => e = .returned (.bool true) ∧ Below w.heap.size w w' :=
  (calls_of_bs hP hb rfl r hgl hv).mono fun e w' ⟨v, h', v', σ', ⟨_, _, e1, e2⟩, he, _, hv', r'⟩ => by
    cases e1
    subst e2
    simp only [VR] at hv'
    subst hv'
    exact ⟨he, r'.below⟩

/-- The same, from a contract over the program whose drawn regions are fixed. -/
theorem law_of_C {P : Program} {RPm : RP} (hP : P.follows .mixedOrders = true) (hd : Det (fun f => cFunc P f) RPm) {f : FuncId} {args : List AV} {h : AH} (hc : C RPm f args h fun r _ => r = .bool true) {D : List Nat} {σ : Sg} {w : World} {args' : Array Value}
    (r : Rep ⟨w.heap.size, w, P, D⟩ σ h w) (hgl : GL σ) (hv : VRs σ args args'.toList) : Calls P f args' w fun e w' => e = .returned (.bool true) ∧ Below w.heap.size w w' :=
  law_of_bs (has_of hP) (det_bs hd hc) r hgl hv

/-- A slice's address that came in names no array's place. -/
theorem okWide_spot {P : Program} {w : World} {r : Reach} {base : Nat} {t e : TypeId} {a : Option Addr} {len cap : Nat} (ht : P.underlying t = some (.slice e)) (h : Value.okWide P w r base t (.slice a len cap)) : ∀ x, a = some x → x.spot = none := by
  rintro x rfl
  simp only [Value.okWide, ht, Cell.okWide, Cell.ok] at h
  exact h.2.2.2.1

/-- A slice that came in, each element of so many integers of one kind. -/
def IsRowE (k : IntKind) (e : Nat) (w : World) (a : Option Addr) (len cap : Nat) (zs : List Int) : Prop :=
  (a = none ∧ len = 0 ∧ cap = 0 ∧ zs = []) ∨
  ∃ x, a = some x ∧ len ≤ cap ∧ cap ≤ maxLen ∧ zs.length = cap * e ∧ (∀ i, i < zs.length → w.cell? (x.add i) = some (.int k (zs.getD i 0))) ∧ ∀ n ∈ zs, (Lit.int k n).wf = true

/-- The slice as the clean machine has it: nil, or one that came in. -/
inductive CameE (k : IntKind) (e : Nat) (h : AH) (ns : List Int) : AV → Prop
  | nil : ns = [] → CameE k e h ns .nils
  | sl {b n : Nat} : h.get b = some (.cells (ns.map (AV.int k)) e true) → ns.length = n * e → CameE k e h ns (.sl b 0 n n)

theorem Rep.rowE {K : Bs} {σ : Sg} {h : AH} {w : World} (r : Rep K σ h w) (hB : K.B = w.heap.size) {k : IntKind} {e : Nat} (he : 0 < e) {a : Option Addr} {len cap : Nat} {zs : List Int} (hr : IsRowE k e w a len cap zs) (hspot : ∀ x, a = some x → x.spot = none) :
    ∃ σ' h' v, σ.le σ' ∧ Rep K σ' h' w ∧ h.next ≤ h'.next ∧ (∀ b, b < h.next → h'.get b = h.get b) ∧ VR σ' v (.slice a len cap) ∧ CameE k e h' (zs.take (len * e)) v := by
  rcases hr with ⟨rfl, rfl, rfl, rfl⟩ | ⟨x, rfl, h1, h2, h3, h4, h5⟩
  · exact ⟨σ, h, .nils, Sg.le_refl σ, r, Nat.le_refl _, fun _ _ => rfl, by simp [VR], .nil (by simp)⟩
  · have hsp := hspot x rfl
    have hadd : ∀ j, x.add j = ⟨x.block, x.off + j, none⟩ := by
      intro j
      obtain ⟨xb, xo, xs⟩ := x
      simp only at hsp
      subst hsp
      exact Addr.add_lit _ _ _
    have hle : len * e ≤ cap * e := Nat.mul_le_mul_right e h1
    have hl : (zs.take (len * e)).length = len * e := by rw [List.length_take]; omega
    have hget : ∀ (h0 : AH), h0.get h.next = some (.cells ((zs.take (len * e)).map (AV.int k)) e true) → CameE k e h0 (zs.take (len * e)) (.sl h.next 0 len len) := fun h0 hg => .sl hg hl
    cases zs with
    | nil =>
      simp only [List.length_nil] at h3
      have e2 : cap = 0 := by
        rcases Nat.eq_zero_or_pos cap with q | q
        · exact q
        · have := Nat.mul_pos q he; omega
      have e1 : len = 0 := by omega
      subst e1
      subst e2
      refine ⟨σ.add h.next ⟨x.block, x.off, e, 0, 0⟩, h.new (.cells [] e true), .sl h.next 0 0 0, Sg.le_add r.fresh, r.came [] e _ rfl (.inl rfl), by simp, fun b hb => ?_, ?_, ?_⟩
      · rw [AH.get_new, if_neg (by omega)]
      · simp only [VR]
        exact ⟨_, x.off, 0, Sg.add_at _ _ _, by obtain ⟨xb, xo, xs⟩ := x; simp only at hsp; subst hsp; rfl, .inl trivial, Nat.le_refl _, Nat.le_refl _, .inl rfl⟩
      · exact hget _ (by rw [AH.get_new]; simp)
    | cons z zs =>
      have h40 := h4 0 (by simp)
      rw [hadd] at h40
      unfold World.cell? at h40
      simp only at h40
      split at h40
      · rename_i C t fr hC
        have hall : ∀ i, i < (z :: zs).length → C[x.off + i]? = some (.int k ((z :: zs).getD i 0)) := by
          intro i hi
          have := h4 i hi
          rw [hadd] at this
          simpa [World.cell?, hC] using this
        have hN : x.off + cap * e ≤ C.size := by
          have := hall (cap * e - 1) (by simp at h3 ⊢; omega)
          have hlt := (Array.getElem?_eq_some_iff.1 this).1
          simp at h3
          omega
        have hblk : x.block < w.heap.size := (Array.getElem?_eq_some_iff.1 hC).1
        refine ⟨σ.add h.next ⟨x.block, x.off, e, C.size, t⟩, h.new (.cells (((z :: zs).take (len * e)).map (AV.int k)) e true), .sl h.next 0 len len, Sg.le_add r.fresh, r.came _ e _ rfl (.inr ⟨by rw [hB]; exact hblk, fun τ _ => ?_⟩), by simp, fun b hb => ?_, ?_, ?_⟩
        · refine ⟨C, t, fr, hC, rfl, rfl, ?_, fun j y hy => ?_, fun q => by (cases q), rfl⟩
          · show x.off + _ ≤ C.size
            rw [List.length_map, hl]; omega
          · have hj : j < len * e := by
              rcases Nat.lt_or_ge j (len * e) with q | q
              · exact q
              · rw [List.getElem?_eq_none (by rw [List.length_map, hl]; exact q)] at hy; cases hy
            rw [List.getElem?_map, List.getElem?_take, if_pos hj] at hy
            refine ⟨.int k ((z :: zs).getD j 0), hall j (by omega), ?_⟩
            rw [List.getD_eq_getElem?_getD]
            cases hq : (z :: zs)[j]? with
            | none => rw [hq] at hy; cases hy
            | some u => rw [hq] at hy; simp only [Option.map_some, Option.some.injEq] at hy; subst hy; simp [VR]
        · rw [AH.get_new, if_neg (by omega)]
        · simp only [VR]
          refine ⟨_, x.off, cap, Sg.add_at _ _ _, by obtain ⟨xb, xo, xs⟩ := x; simp only at hsp; subst hsp; rfl, .inr (by simp), h1, Nat.le_refl _, .inr ⟨Nat.le_refl _, ?_⟩⟩
          show x.off + cap * e ≤ C.size
          omega
        · exact hget _ (by rw [AH.get_new]; simp)
      · cases h40

/-- The start: of the program's variables some tables of integers are laid. -/
structure St0 (K : Bs) (σ : Sg) (h : AH) (w : World) : Prop where
  rep : Rep K σ h w
  gl : GL σ
  nx : h.next = NG
  ints : ∀ b o, h.get b = some o → ∃ (k : IntKind) (zs : List Int), o = .cells (zs.map (AV.int k)) 1 true
  ty : ∀ b, h.tyOf b = none

theorem St0.zero (P : Program) (w : World) : St0 ⟨w.heap.size, w, P, []⟩ Sg.zero AH.zero w :=
  ⟨Rep.zero P w, GL.zero, rfl, (fun b o h => by rw [AH.get_zero] at h; cases h), (fun b => by unfold AH.tyOf AH.zero; simp [T.get])⟩

theorem St0.lay {K : Bs} {σ : Sg} {h : AH} {w : World} (s : St0 K σ h w) {g : Nat} (hg : g < NG) {k : IntKind} {zs : List Int} (hz : zs ≠ []) (hc : ∀ i, i < zs.length → w.cell? ⟨g, i, none⟩ = some (.int k (zs.getD i 0))) :
    ∃ σ' h', St0 K σ' h' w ∧ h'.get g = some (.cells (zs.map (AV.int k)) 1 true) ∧ ∀ b, b ≠ g → h'.get b = h.get b := by
  have hpos : 0 < zs.length := List.length_pos_iff.2 hz
  have h40 := hc 0 hpos
  unfold World.cell? at h40
  simp only at h40
  split at h40
  · rename_i C t fr hC
    have hall : ∀ i, i < zs.length → C[i]? = some (.int k (zs.getD i 0)) := by
      intro i hi
      have := hc i hi
      simpa [World.cell?, hC] using this
    have hN : zs.length ≤ C.size := by
      have hlt := (Array.getElem?_eq_some_iff.1 (hall (zs.length - 1) (by omega))).1
      omega
    have hgn : g < h.next := by rw [s.nx]; exact hg
    have hgp : ∀ b, (h.put g (.cells (zs.map (AV.int k)) 1 true)).get b = if g = b then some (.cells (zs.map (AV.int k)) 1 true) else h.get b := fun b => AH.get_put _ _ _ _ hgn
    have hint : ∀ b o, (h.put g (.cells (zs.map (AV.int k)) 1 true)).get b = some o → ∃ (k : IntKind) (zs : List Int), o = .cells (zs.map (AV.int k)) 1 true := by
      intro b o hb
      rw [hgp] at hb
      split at hb
      · cases hb; exact ⟨k, zs, rfl⟩
      · exact s.ints b o hb
    refine ⟨fun b => if b = g then some ⟨g, 0, 1, C.size, t⟩ else σ b, h.put g (.cells (zs.map (AV.int k)) 1 true), ⟨⟨⟨fun b i hi => ?_, fun b ty hty => ?_⟩, fun b o hb hl => ?_, fun b b' o o' i i' hb hb' hne hx => ?_, s.rep.below, s.rep.le, fun b cs e ro i hb hi => ?_, s.rep.dfr⟩, fun b hb => ?_, s.nx, hint, fun b => s.ty b⟩, by rw [hgp, if_pos rfl], fun b hb => by rw [hgp, if_neg (fun q => hb q.symm)]⟩
    · refine ⟨?_, fun q => ?_⟩
      · split at hi
        · rename_i e; subst e; exact hgn
        · exact (s.rep.dom.1 b i hi).1
      · obtain ⟨_, _, e⟩ := hint b _ q
        cases e
    · rw [AH.tyOf_put, s.ty] at hty
      cases hty
    · rw [hgp] at hb
      by_cases e : g = b
      · subst e
        rw [if_pos rfl] at hb
        simp only [Option.some.injEq] at hb
        subst hb
        refine ⟨⟨g, 0, 1, C.size, t⟩, by simp, C, t, fr, hC, rfl, rfl, ?_, fun j y hy => ?_, fun q => (by cases q), rfl⟩
        · show 0 + _ ≤ C.size
          rw [List.length_map]; omega
        · rw [List.getElem?_map] at hy
          cases hq : zs[j]? with
          | none => rw [hq] at hy; cases hy
          | some u =>
            rw [hq] at hy
            simp only [Option.map_some, Option.some.injEq] at hy
            subst hy
            have hj := (List.getElem?_eq_some_iff.1 hq).1
            refine ⟨.int k (zs.getD j 0), by rw [Nat.zero_add]; exact hall j hj, ?_⟩
            rw [List.getD_eq_getElem?_getD, hq]
            simp [VR]
      · rw [if_neg e] at hb
        obtain ⟨k', zs', rfl⟩ := s.ints b o hb
        obtain ⟨i, hi, C', t', fr', r1, r2, r3, r4, r5, r6, r7⟩ := s.rep.obj b _ hb hl
        refine ⟨i, by rw [if_neg (fun q => e q.symm)]; exact hi, C', t', fr', r1, r2, r3, r4, fun j y hy => ?_, r6, r7⟩
        obtain ⟨z, z1, z2⟩ := r5 j y hy
        refine ⟨z, z1, ?_⟩
        rw [List.getElem?_map] at hy
        cases hq : zs'[j]? with
        | none => rw [hq] at hy; cases hy
        | some u =>
          rw [hq] at hy
          simp only [Option.map_some, Option.some.injEq] at hy
          subst hy
          simp only [VR] at z2 ⊢
          exact z2
    · obtain ⟨_, _, rfl⟩ := hint b o hb
      cases hx
    · obtain ⟨_, _, e1⟩ := hint b _ hb
      simp only [AO.cells.injEq] at e1
      obtain ⟨_, rfl, _⟩ := e1
      split at hi
      · simp only [Option.some.injEq] at hi
        subst hi
        rfl
      · rename_i e
        rw [hgp, if_neg (fun q => e q.symm)] at hb
        exact s.rep.esz b _ _ _ i hb hi
    · split
      · rename_i e; subst e; exact ⟨_, rfl, rfl, rfl⟩
      · exact s.gl b hb
  · cases h40

end Go.Am
