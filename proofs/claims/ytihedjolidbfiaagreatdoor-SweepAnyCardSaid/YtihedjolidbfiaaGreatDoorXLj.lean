/-
  The definition's side: a front: Ready. The definition's side: a front: Place. The definition's side: Of: is a plan one of a good graph? The definition's side: Run.
-/
import Derived.Test.YtihedjolidbfiaaGreatDoorXLi
set_option linter.all false
namespace Go.Proofs.YtihedjolidbfiaaGreatDoor
open Go.Am
structure IsRef (h:AH) (fb n:Nat) (es:List (Int×Int)) (row:List It) (pl:List Int) (ev rv pv:AV):Prop where
 g:h.get fb=some (.cells [.int .i64 (n:Nat),ev,rv,pv] 4 false)
 e:SlE h ev es
 r:SlT h rv row
 p:SlI h pv pl
 oe:∀ b o m c,ev=.sl b o m c→b≠fb
 or:∀ b o m c,rv=.sl b o m c→b≠fb
 op:∀ b o m c,pv=.sl b o m c→b≠fb
 hm:mayB (n:Nat) es=true
end Go.Proofs.YtihedjolidbfiaaGreatDoor
namespace Go.Proofs.YtihedjolidbfiaaGreatDoor
open Go.Am
end Go.Proofs.YtihedjolidbfiaaGreatDoor
namespace Go.Proofs.YtihedjolidbfiaaGreatDoor
open Go.Am
def DoneM (outs:List (List Int)) (x k:Nat) (i:Int):Prop:=(∃ y,y<x∧i∈outs.getD y [])∨i∈(outs.getD x []).take k
structure CntI (es:List (Int×Int)) (outs:List (List Int)) (x k:Nat) (cs:List Int):Prop where
 len:cs.length=es.length
 one:∀ i:Nat,i<es.length→DoneM outs x k ((i:Nat):Int)→cs.getD i 0=1
 zero:∀ i:Nat,i<es.length→¬ DoneM outs x k ((i:Nat):Int)→cs.getD i 0=0
 old:∀ y,y<x→(outs.getD y []).Nodup∧∀ i∈outs.getD y [],i∈outsM es ((y:Nat):Int)
 now:((outs.getD x []).take k).Nodup∧∀ i∈(outs.getD x []).take k,i∈outsM es ((x:Nat):Int)
end Go.Proofs.YtihedjolidbfiaaGreatDoor
namespace Go.Proofs.YtihedjolidbfiaaGreatDoor
open Go.Am
theorem one_src {n:Nat}{es:List (Int×Int)} (hl:(srcM n es).length≤1):∀ a b:Nat,a<n→b<n→(insM es a).length=0→(insM es b).length=0→a=b:=by
 intro a b ha hb h1 h2
 refine Decidable.byContradiction fun hne=>?_
 have mem:∀ c:Nat,c<n→(insM es c).length=0→((c:Nat):Int)∈srcM n es:=fun c hc h=>by
  unfold srcM
  exact List.mem_map.2 ⟨c,List.mem_filter.2 ⟨List.mem_range.2 hc,by simpa using h⟩,rfl⟩
 have:=nd_len (l:=[((a:Nat):Int),((b:Nat):Int)]) (m:=srcM n es) (by simp; omega) (fun x hx=>by
  simp only[List.mem_cons,List.not_mem_nil,or_false] at hx
  rcases hx with rfl|rfl
  ·exact mem a ha h1
  ·exact mem b hb h2)
 simp only[List.length_cons,List.length_nil] at this
 omega
end Go.Proofs.YtihedjolidbfiaaGreatDoor
