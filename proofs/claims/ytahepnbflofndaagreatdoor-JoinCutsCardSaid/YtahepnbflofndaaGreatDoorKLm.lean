/- arborlaw10.Great. -/
import Derived.Test.YtahepnbflofndaaGreatDoorKLf
import Derived.Test.YtahepnbflofndaaGreatDoorKLh
set_option linter.all false
namespace Go.Proofs.YtahepnbflofndaaGreatDoor
open Go.Am
theorem qL {v x:AV} (h:gD v=some x):v.cells=[v]∧v.one=true:=by
 unfold gD at h;split at h
 ·exact⟨rfl,rfl⟩
 ·exact⟨rfl,rfl⟩
 ·exact⟨rfl,rfl⟩
 ·cases h
theorem Hn {h:AH}{n:Int}{ne no nu:Nat}{ev ordv outv:AV}{outs:List (List Int)} (he:gD ev=some (.int .i64 (ne:Nat))) (hp:gD ordv=some (.int .i64 (no:Nat))) (hu:gD outv=some (.int .i64 (nu:Nat))) (hq:nu≤100→SlL h outv outs) :
 C prg 25 [.agg [.int .i64 n,ev],.agg [ordv,outv]] h λr h'=>(∃ b,r=.bool b∧(b=false→ne≤200∧no≤100∧nu≤100∧∀ l∈outs,l.length≤200))∧Ext h.next h h':=by
 obtain⟨ec,eo⟩:=qL he;obtain⟨oc,oo⟩:=qL hp;obtain⟨qc,qo⟩:=qL hu;refine Mw pf25 ?_;refine ae (aj (Ji0) ?_);have ga:∀ c,((h.new (.cells [.int .i64 n,ev] 2 false)).new (.cells [ordv,outv] 2 false)).get c=if c=h.next+1 then some (.cells [ordv,outv] 2 false) else if c=h.next then some (.cells [.int .i64 n,ev] 2 false) else h.get c:=λc=>by
  rw[AH.get_new,AH.get_new];rfl
 have x0:Ext h.next h ((h.new (.cells [.int .i64 n,ev] 2 false)).new (.cells [ordv,outv] 2 false)):=(Mt (ab _)).trans (Mt (by simp));generalize ((h.new (.cells [.int .i64 n,ev] 2 false)).new (.cells [ordv,outv] 2 false))=h1 at *
 have gG:h1.get h.next=some (.cells [.int .i64 n,ev] 2 false):=by rw[ga,if_neg om,if_pos rfl]
 have gP:h1.get (h.next+1)=some (.cells [ordv,outv] 2 false):=by rw[ga,if_pos rfl]
 have re:ak h1 h.next 1 1=some [ev]:=bm gG rfl;have ra:ak h1 (h.next+1) 0 1=some [ordv]:=bm gP rfl;have rb:ak h1 (h.next+1) 1 1=some [outv]:=bm gP rfl;by_cases q1:200<ne
 ·have c1:decide ((200:Int)<((ne:Nat):Int))=true:=aH om;refine ae (ae (aj (Mi3 re he c1) ?_));refine db (Z0) (ae (aj (M0) ?_));exact br ⟨.bool true,(by simp only[rs,rf25,am,aK,simprocAttr]<;>rfl),⟨true,rfl,λh=>by cases h⟩,x0⟩
 have c1:decide ((200:Int)<((ne:Nat):Int))=false:=aw om;by_cases q2:100<no
 ·have c2:decide ((100:Int)<((no:Nat):Int))=true:=aH om;refine ae (ae (aj (Mi6 re he c1 ra hp c2) ?_));refine db (Z0) (ae (aj (M0) ?_));exact br ⟨.bool true,(by simp only[rs,rf25,am,aK,simprocAttr]<;>rfl),⟨true,rfl,λh=>by cases h⟩,x0⟩
 have c2:decide ((100:Int)<((no:Nat):Int))=false:=aw om;by_cases q3:100<nu
 ·have c3:decide ((100:Int)<((nu:Nat):Int))=true:=aH om;refine ae (ae (aj (Mi10 re he c1 ra hp c2 rb hu c3 c3) ?_));refine db (Z0) (ae (aj (M0) ?_));exact br ⟨.bool true,(by simp only[rs,rf25,am,aK,simprocAttr]<;>rfl),⟨true,rfl,λh=>by cases h⟩,x0⟩
 have c3:decide ((100:Int)<((nu:Nat):Int))=false:=aw om;have hs:=(hq om).ext x0;have hlu:outs.length=nu:=by
  have:=hs.len;rw[hu] at this;simp only[aa,AV.int.injEq,true_and] at this;omega
 refine ae (ae (aj (Mi10 re he c1 ra hp c2 rb hu c3 c3) ?_));refine dL (Z0) (bu ?_);refine ae (ae (aj (Mi2 rb hu) ?_));refine fA (α:=Unit) (N:=nu) (λ_ _=>[(24,outv)]) (λk _ h'=>h'=h1∧∀ l∈outs.take k,l.length≤200) () (λ_ _=>rfl) om (Hi0) ⟨rfl,by simp⟩ ?_ ?_
 ·rintro k _ ts h2 hk ⟨rfl,j1⟩ ⟨ei,en,e24,-⟩;simp only at ei en e24;obtain⟨b1,p1,w,a1,r1,sw,_⟩:=hs.at (show k<outs.length by omega);have lw:=sw.len;rw[ai] at lw;refine ae (aj (M4 ei e24 a1 r1) ?_);refine ae (aj (M1 lw) ?_);refine cr (t:=decide (200<(outs[k]'om).length)) (by simp only[am,aK,simprocAttr]; exact congrArg AV.bool (by simp only[decide_eq_decide]; omega)) (λp=>?_) λp=>?_
  ·refine ae (aj (M0) ?_);exact br ⟨.bool true,(by simp only[rs,rf25,am,aK,simprocAttr]<;>rfl),⟨true,rfl,λh=>by cases h⟩,x0⟩
  ·have p:¬ 200<(outs[k]'om).length:=aZ p;refine bu ⟨(),⟨rfl,λl hl=>?_⟩,H3 ei en e24⟩;rw[aG om,aV] at hl;rcases hl with hl|hl
   ·exact j1 l hl
   ·simp only[aA,bq,or_false] at hl;subst hl;omega
 ·rintro _ ts h2 ⟨rfl,j1⟩ ⟨e24,-⟩;rw[da om] at j1;refine ae (aj (M0) ?_);exact br ⟨.bool false,(by simp only[rs,rf25,am,aK,simprocAttr]<;>rfl),⟨false,rfl,λ_=>⟨om,om,om,j1⟩⟩,x0⟩
end Go.Proofs.YtahepnbflofndaaGreatDoor
