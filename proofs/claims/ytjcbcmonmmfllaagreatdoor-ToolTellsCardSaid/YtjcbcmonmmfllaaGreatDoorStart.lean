/-
  The law's beginning: what came in lies at names that the example's run keeps.
-/
import Derived.Test.YtjcbcmonmmfllaaGreatDoorTLaw
import Derived.Test.YtjcbcmonmmfllaaGreatDoorSp
import Derived.KernelRfl
namespace Go.Proofs.YtjcbcmonmmfllaaGreatDoor
set_option linter.unusedVariables false
set_option linter.unusedSimpArgs false
open Go.Am

def began (T : AO) (os : List AO) (oc ov : AO) : AH := ((news os (AH.zero.put 0 T)).new oc).new ov

theorem began_eq (T o8 o9 o10 o11 o12 o13 o14 o15 o16 o17 o18 o19 : AO) : began T [o8, o9, o10, o11, o12, o13, o14, o15, o16, o17] o18 o19 = puts [(0, T, none), (8, o8, none), (9, o9, none), (10, o10, none), (11, o11, none), (12, o12, none), (13, o13, none), (14, o14, none), (15, o15, none), (16, o16, none), (17, o17, none), (18, o18, none), (19, o19, none)] spH0 := by kernel_rfl

theorem began_kept (T o8 o9 o10 o11 o12 o13 o14 o15 o16 o17 o18 o19 : AO) : ∀ b, b < 20 → (began T [o8, o9, o10, o11, o12, o13, o14, o15, o16, o17] o18 o19).get b = none ∨ b ∈ [0, 8, 9, 10, 11, 12, 13, 14, 15, 16, 17, 18, 19] := by
  intro b hb
  have h : b = 0 ∨ b = 1 ∨ b = 2 ∨ b = 3 ∨ b = 4 ∨ b = 5 ∨ b = 6 ∨ b = 7 ∨ 8 ≤ b := by omega
  rcases h with rfl | rfl | rfl | rfl | rfl | rfl | rfl | rfl | h
  · exact .inr (by simp)
  · exact .inl (by kernel_rfl)
  · exact .inl (by kernel_rfl)
  · exact .inl (by kernel_rfl)
  · exact .inl (by kernel_rfl)
  · exact .inl (by kernel_rfl)
  · exact .inl (by kernel_rfl)
  · exact .inl (by kernel_rfl)
  · right
    have : b = 8 ∨ b = 9 ∨ b = 10 ∨ b = 11 ∨ b = 12 ∨ b = 13 ∨ b = 14 ∨ b = 15 ∨ b = 16 ∨ b = 17 ∨ b = 18 ∨ b = 19 := by omega
    rcases this with rfl | rfl | rfl | rfl | rfl | rfl | rfl | rfl | rfl | rfl | rfl | rfl <;> simp

theorem ten {α : Type} {l : List α} (h : l.length = 10) : ∃ a b c d e f g i j k, l = [a, b, c, d, e, f, g, i, j, k] := by
  match l, h with
  | [a, b, c, d, e, f, g, i, j, k], _ => exact ⟨a, b, c, d, e, f, g, i, j, k, rfl⟩

theorem sp_kept : ∀ x ∈ ([0, 8, 9, 10, 11, 12, 13, 14, 15, 16, 17, 18, 19] : List Nat), spH0.get x = some .resv := by
  intro x hx
  simp only [List.mem_cons, List.not_mem_nil, or_false] at hx
  rcases hx with rfl | rfl | rfl | rfl | rfl | rfl | rfl | rfl | rfl | rfl | rfl | rfl | rfl <;> kernel_rfl

/-- the example, and what was there stays -/
theorem speaks_ok {T oc ov : AO} {os : List AO} (h10 : os.length = 10) : C prg 4 [] (began T os oc ov) fun v h' => v = .bool true ∧ 0 < h'.next ∧ ∀ b o, (began T os oc ov).get b = some o → h'.get b = some o := by
  obtain ⟨a, b, c, d, e, f, g, i, j, k, rfl⟩ := ten h10
  obtain ⟨h1, hg⟩ := sp_good
  have hg2 : Go.Am.Good prg ⟨.call 4 [] spH0, []⟩ (.val (.bool true) h1) := hg
  have hkept := began_kept T a b c d e f g i j k oc ov
  have hlt : (began T [a, b, c, d, e, f, g, i, j, k] oc ov).next = 20 := by kernel_rfl
  rw [began_eq] at hkept hlt ⊢
  refine (C.of_good hg2 [(0, T, none), (8, a, none), (9, b, none), (10, c, none), (11, d, none), (12, e, none), (13, f, none), (14, g, none), (15, i, none), (16, j, none), (17, k, none), (18, oc, none), (19, ov, none)] (show ([0, 8, 9, 10, 11, 12, 13, 14, 15, 16, 17, 18, 19] : List Nat).Nodup by decide) (fun x hx => sp_kept x.1 (List.mem_map.2 ⟨x, hx, rfl⟩))).mono fun v h' ⟨e1, e2⟩ => ⟨e1, (Nat.zero_lt_of_lt (e2 0 (by simp)).1), fun b o hb => ?_⟩
  have hbl : b < 20 := by rw [← hlt]; exact AH.lt_of_get hb
  rcases hkept b hbl with hn | hm
  · rw [hn] at hb; cases hb
  · rw [(e2 b hm).2]; exact hb

end Go.Proofs.YtjcbcmonmmfllaaGreatDoor
