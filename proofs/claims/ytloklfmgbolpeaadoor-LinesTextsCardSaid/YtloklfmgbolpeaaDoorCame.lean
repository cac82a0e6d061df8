/-
  What came in, as the laws in the clean machine want it.
-/
import Derived.Test.YtloklfmgbolpeaaDoorSpk
namespace Go.Proofs.YtloklfmgbolpeaaDoor
set_option linter.unusedVariables false
set_option linter.unusedSimpArgs false
open Go.Am

def pairsI : List Int → List (Int × Int)
  | x :: y :: r => (x, y) :: pairsI r
  | _ => []

theorem flat_pairsI : ∀ (n : Nat) (ns : List Int), ns.length = n * 2 → flatI (pairsI ns) = ns.map (AV.int .i64) ∧ (pairsI ns).length = n
  | 0, [], _ => ⟨rfl, rfl⟩
  | n + 1, x :: y :: r, h => by
    have ih := flat_pairsI n r (by simp only [List.length_cons] at h; omega)
    refine ⟨?_, ?_⟩
    · simp only [pairsI, flatI, List.flatMap_cons, edgI, List.map_cons, List.cons_append, List.nil_append]
      rw [← ih.1]
      rfl
    · simp only [pairsI, List.length_cons, ih.2]
  | 0, _ :: _, h => by simp at h
  | n + 1, [], h => by simp at h
  | n + 1, [x], h => by simp only [List.length_cons, List.length_nil] at h; omega

theorem came_edges {h : AH} {ns : List Int} {v : AV} (hc : CameE .i64 2 h ns v) : EdgesAt h v (pairsI ns) := by
  cases hc with
  | nil e => subst e; exact .inl ⟨rfl, rfl⟩
  | sl hg hl =>
    rename_i b n
    obtain ⟨h1, h2⟩ := flat_pairsI n ns hl
    exact .inr ⟨b, n, true, rfl, by rw [h1]; exact hg, h2.symm⟩

theorem came_bytes {h : AH} {zs : List Int} {v : AV} (hz : ∀ n ∈ zs, (Lit.int .u8 n).wf = true) (hc : CameE .u8 1 h zs v) : ∃ bs, CameB h bs v := by
  cases hc with
  | nil e => exact ⟨[], .inl ⟨rfl, rfl⟩⟩
  | sl hg hl =>
    rename_i b n
    rw [Nat.mul_one] at hl
    subst hl
    refine ⟨zs.map fun n => UInt8.ofNat n.toNat, .inr ⟨_, by rw [List.length_map], ?_⟩⟩
    rw [hg]
    congr 2
    simp only [ofBytes, List.map_map]
    refine List.map_congr_left fun n hn => ?_
    have := hz n hn
    simp only [Lit.wf, Bool.and_eq_true, decide_eq_true_eq] at this
    have h2 : 0 ≤ n ∧ n ≤ 255 := this
    simp only [Function.comp]
    congr 1
    rw [UInt8.toNat_ofNat']
    omega

end Go.Proofs.YtloklfmgbolpeaaDoor
