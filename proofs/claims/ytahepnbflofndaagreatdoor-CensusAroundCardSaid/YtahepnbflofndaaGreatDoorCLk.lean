/-
  More than one element appended at once.
-/
import Derived.Test.YtahepnbflofndaaGreatDoorCRf
import Derived.Test.YtahepnbflofndaaGreatDoorCAmR
set_option linter.all false
namespace Go.Proofs.YtahepnbflofndaaGreatDoor
open Go.Am
theorem apps {h:AH}{esz lo bytes:Nat}{v w:AV}{cs:List AV}{xs:List (List AV)} (hv:IsSl h esz lo v cs) (hlo:lo≤h.next) (he:0<esz) (hw:Sl h esz w xs) (ho:xs.flatten.all AV.one=true)
 (hb:(cs.length / esz+xs.length)*bytes<tooMany) (hc:cs.length / esz+xs.length<tooMany):∃ v' h',appA h esz bytes v w=some (v',h')∧IsSl h' esz lo v' (cs++xs.flatten)∧Ext lo h h'∧h.next≤h'.next∧(∀ c,c<h.next→(∀ b n,v=.sl b 0 n n→c≠b)→h'.get c=h.get c):=by
 obtain⟨hs,hfl⟩:=hw.src
 by_cases h0:xs.length=0
 ·have hx0:xs=[]:=List.length_eq_zero_iff.1 h0
  subst hx0
  refine⟨v,h,?_,by simpa using hv,Ext.refl,Nat.le_refl _,fun _ _ _=>rfl⟩
  rcases hv with ⟨rfl,rfl⟩|⟨b,n,h1,rfl,h3,h4⟩
  ·simp only[appA,hs,ho,if_true,List.length_nil]
  ·simp only[appA,hs,ho,if_true,List.length_nil]
 ·rcases hv with ⟨rfl,rfl⟩|⟨b,n,h1,rfl,h3,h4⟩
  ·refine⟨.sl h.next 0 xs.length xs.length,h.new (.cells xs.flatten esz false),?_,.inr ⟨h.next,xs.length,hlo,rfl,by rw[AH.get_new]; simp,by simpa using hfl⟩,Ext.new hlo,by simp,fun c hc _=>by rw[AH.get_new,if_neg (by omega)]⟩
   simp only[appA,hs,ho,if_true,h0,if_false]
   simp only[List.length_nil,Nat.zero_div,Nat.zero_add] at hb hc
   rw[if_pos ⟨hb,hc⟩]
  ·have hnn:cs.length / esz=n:=by rw[h4,Nat.mul_div_cancel _ he]
   rw[hnn] at hb hc
   have hr2:rdCells h b 0 (n*esz)=some cs:=by
    rw[rdCells_of h3,if_pos (by omega),List.drop_zero,← h4,List.take_length]
   refine⟨.sl h.next 0 (n+xs.length) (n+xs.length),(h.put b .dead).new (.cells (cs++xs.flatten) esz false),?_,.inr ⟨h.next,n+xs.length,hlo,rfl,by rw[AH.get_new,AH.next_put]; simp,by rw[List.length_append,hfl,h4,Nat.add_mul]⟩,?_,by simp,?_⟩
   ·simp only[appA,hs,ho,if_true,h0,if_false]
    rw[if_neg (by omega),if_pos ⟨hb,hc⟩,h3,hr2]
    simp only[if_true]
   ·exact (Ext.put h1).trans (Ext.new (by simpa using hlo))
   ·intro c hc hne
    rw[AH.get_new,AH.next_put,if_neg (by omega),AH.get_put _ _ _ _ (AH.lt_of_get h3),if_neg (Ne.symm (hne b n rfl))]
end Go.Proofs.YtahepnbflofndaaGreatDoor
