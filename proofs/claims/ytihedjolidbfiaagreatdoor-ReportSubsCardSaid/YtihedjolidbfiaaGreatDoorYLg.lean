/-
  sweep: of, Run. sweep: Run.
-/
import Derived.Test.YtihedjolidbfiaaGreatDoorYLf
set_option linter.all false
namespace Go.Proofs.YtihedjolidbfiaaGreatDoor
open Go.Am
def upTo (n:Nat):List Int:=(List.range n).map fun x=>((x:Nat):Int)
theorem upTo_len (n:Nat):(upTo n).length=n:=by simp [upTo]
theorem mem_upTo {n:Nat}{x:Int}:x∈upTo n↔0≤x∧x<n:=by
 unfold upTo
 rw[List.mem_map]
 constructor
 ·rintro⟨a,ha,rfl⟩
  rw[List.mem_range] at ha
  omega
 ·rintro⟨h1,h2⟩
  exact⟨x.toNat,List.mem_range.2 (by omega),by omega⟩
end Go.Proofs.YtihedjolidbfiaaGreatDoor
namespace Go.Proofs.YtihedjolidbfiaaGreatDoor
open Go.Am
end Go.Proofs.YtihedjolidbfiaaGreatDoor
