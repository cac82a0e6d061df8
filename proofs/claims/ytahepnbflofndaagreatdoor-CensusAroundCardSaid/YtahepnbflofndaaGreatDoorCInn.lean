/-
  Slices that came in, as they lie in the clean machine's memory.
-/
import Derived.Test.YtahepnbflofndaaGreatDoorCRf
import Derived.Test.YtahepnbflofndaaGreatDoorCAmEnd
import Derived.Test.YtahepnbflofndaaGreatDoorCAmR
set_option linter.all false
namespace Go.Proofs.YtahepnbflofndaaGreatDoor
open Go.Am
open Go.RowKit
theorem flat_ci (xs:List Int):xs.flatMap eI=xs.map (AV.int .i64):=by
 induction xs with
 | nil=>rfl
 | cons x r ih=>rw[List.flatMap_cons,ih]; rfl
theorem sl_flat {α:Type}{f:α→List AV}{h:AH}{e b n:Nat}{xs:List α}{ro:Bool} (hf:∀ x,(f x).length=e) (hg:h.get b=some (.cells (xs.flatMap f) e ro)) (hn:n=xs.length):Sl h e (.sl b 0 n n) (xs.map f):=by
 subst hn
 have hl:=flat_len hf xs
 refine .inr ⟨b,0,xs.length,_,ro,by rw[List.length_map],hg,by rw[List.length_map]; exact Nat.le_refl _,by rw[List.length_map,hl]; omega,fun i x hx=>?_⟩
 rw[List.getElem?_map] at hx
 obtain⟨y,hy,rfl⟩:=Option.map_eq_some_iff.1 hx
 rw[Nat.zero_add]
 exact flat_at hf xs i y hy
theorem ints1b {K:Bs}{σ:Sg}{h:AH}{w:World} (r:Rep K σ h w) (hB:K.B=w.heap.size) {a:Option Addr}{len cap:Nat}{zs:List Int} (hr:IsRowE .i64 1 w a len cap zs) :
 ∃ σ' o v,σ.le σ'∧Rep K σ' (h.new o) w∧VR σ' v (.slice a len cap)∧lenLA v=some (.int .i64 (len:Nat))∧SlI (h.new o) v (zs.take len)∧∀ b o n c,v=.sl b o n c→b=h.next:=by
 have hrow:len≤cap∧zs.length=cap∧(a=none→cap=0)∧∀ x,a=some x→∀ i,i<cap→w.cell? (x.add i)=some (.int .i64 (zs.getD i 0)):=by
  rcases hr with ⟨rfl,rfl,rfl,rfl⟩|⟨x,rfl,h1,h2,h3,h4,h5⟩
  ·exact⟨Nat.le_refl _,rfl,fun _=>rfl,(fun x hx=>by cases hx)⟩
  ·rw[Nat.mul_one] at h3
   exact⟨h1,h3,(fun h=>by cases h),(fun y hy i hi=>by cases hy; exact h4 i (by omega))⟩
 obtain⟨q1,q2,q3,q4⟩:=hrow
 obtain⟨σ',o,v,b1,b2,b3,b4⟩:=r.rowB hB q1 q2 q3 q4
 refine⟨σ',o,v,b1,b2,b3,?_⟩
 rcases b4 with ⟨h1|h1,h2⟩|⟨h1,h2⟩
 ·subst h1 h2
  exact⟨rfl,.inl ⟨by simp,.inl rfl⟩,fun b o n c e=>by cases e⟩
 ·subst h1 h2
  exact⟨rfl,.inl ⟨by simp,.inr rfl⟩,fun b o n c e=>by cases e⟩
 ·subst h1 h2
  refine⟨rfl,sl_flat (f:=eI) (ro:=true) (fun _=>rfl) ?_ (by rw[List.length_take]; omega),fun b o n c e=>by cases e; rfl⟩
  rw[AH.get_new,if_pos rfl,flat_ci]
end Go.Proofs.YtahepnbflofndaaGreatDoor
