/-
  A graph and a plan that came in.
-/
import Derived.Test.YticaalcbgikjjaaGreatDoorKLw
import Derived.Test.YticaalcbgikjjaaGreatDoorKLf
set_option linter.all false
namespace Go.Proofs.YticaalcbgikjjaaGreatDoor
open Go.Am
theorem SlL.stay {h h':AH}{v:AV}{xss:List (List Int)} (hk:∀ b o,h.get b=some o→h'.get b=some o) (hs:SlL h v xss):SlL h' v xss:=by
 obtain⟨ws,a,b,c⟩:=hs
 exact⟨ws,Sl.stay hk a,b,fun i w xs h1 h2=>Sl.stay hk (c i w xs h1 h2)⟩
end Go.Proofs.YticaalcbgikjjaaGreatDoor
