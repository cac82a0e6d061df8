/- arborref01.SameInts. -/
import Derived.Test.YtahepnbflofndaaGreatDoorJLh
set_option linter.all false
namespace Go.Proofs.YtahepnbflofndaaGreatDoor
open Go.Am
theorem mO {α:Type}{xs ys:List α} (hl:xs.length=ys.length) {k:Nat} (hk:k<xs.length) (h:xs.take k=ys.take k) (e:xs[k]=ys[k]'om):xs.take (k+1)=ys.take (k+1):=by
 rw[aK hk,aK (show k<ys.length by omega),h,e]
theorem uv {h:AH}{v w:AV}{xs ys:List Int} (hv:SlI h v xs) (hw:SlI h w ys) (hl:xs.length<2 ^ 40) (hl2:ys.length<2 ^ 40):C prg 23 [v,w] h λr h'=>r=.bool (decide (xs=ys))∧h'=h:=by
 have e1:=hv.len
 have e2:=hw.len
 rw[au] at e1 e2
 refine HH pf23 ?_
 refine ab (ah (Ji0) ?_)
 refine ab (ab (ah (Mi2 e1 e2) ?_))
 refine bg (t:=!decide (xs.length=ys.length)) (by simp only[am,aD,simprocAttr]; exact congrArg AV.bool (by congr 1; simp only[decide_eq_decide]; omega)) (λq=>?_) λq=>?_
 ·have q:¬ xs.length=ys.length:=by simpa using q
  refine ab (ah (M0) ?_)
  exact bt ⟨.bool false,(by simp only[rs,rf23,am,aD,simprocAttr]<;>rfl),by rw[aG (λe=>q (by rw[e]))],rfl⟩
 have q:xs.length=ys.length:=by simpa using q
 refine aN ?_
 refine ab (ab (ah (Mi0) ?_))
 refine eg (α:=Unit) (N:=xs.length) (λk _=>[(0,v),(1,w),(5,.int .i64 (k:Nat))]) (λk _ h'=>h'=h∧xs.take k=ys.take k) () (Oi1 @bm) ⟨rfl,rfl⟩ ?_ ?_ ?_
 ·rintro k _ ts h1 hk ⟨rfl,j1⟩ ⟨f0,f1,f5,-⟩
  simp only at f0 f1 f5
  exact⟨_,(J4 f0 f5 e1 @bi),I0,O3 f0 f1 f5⟩
 ·rintro k _ ts h1 hk ⟨rfl,j1⟩ ⟨f0,f1,f5,-⟩
  simp only at f0 f1 f5
  obtain⟨b1,p1,a1,r1,_⟩:=hv.at1 (cF (f:=eI) hk)
  obtain⟨b2,p2,a2,r2,_⟩:=hw.at1 (cF (f:=eI) (show k<ys.length by omega))
  have w1:=eF (k:=k) om
  refine ab (ah (M7 f0 f1 f5 a1 a2 r1 r2) ?_)
  refine bg (t:=!decide (xs[k]=ys[k]'om)) (Z0) (λp=>?_) λp=>?_
  ·have p:¬ xs[k]=ys[k]'om:=by simpa using p
   refine ab (ah (M0) ?_)
   refine bt ⟨.bool false,(by simp only[rs,rf23,am,aD,simprocAttr]<;>rfl),?_,rfl⟩
   rw[aG]
   intro e
   subst e
   exact p rfl
  ·have p:xs[k]=ys[k]'om:=by simpa using p
   exact aN ⟨(),⟨rfl,mO q hk j1 p⟩,_,(J2 f5 w1),O2 f0 f1⟩
 ·rintro _ ts h1 ⟨rfl,j1⟩ ⟨f0,f1,f5,-⟩
  rw[bp,q,bp] at j1
  refine ab (ah (M0) ?_)
  exact bt ⟨.bool true,(by simp only[rs,rf23,am,aD,simprocAttr]<;>rfl),by rw[aI j1],rfl⟩
open Go.Am
theorem flat2 {a b:Int×Int}:fm [.i64,.i64] (eE a) (eE b)=some (decide (a=b)):=by
 obtain⟨a1,a2⟩:=a
 obtain⟨b1,b2⟩:=b
 simp only[eE,fm,and_self,if_true]
 by_cases h1:a1=b1
 ·subst h1
  by_cases h2:a2=b2
  ·subst h2; simp
  ·simp [h2]
 ·simp [h1]
theorem BO {h:AH}{n m:Int}{v w:AV}{xs ys:List (Int×Int)} (hv:SlE h v xs) (hw:SlE h w ys) (hxl:xs.length<2 ^ 40) (hl2:ys.length<2 ^ 40) :
 C prg 22 [.agg [.int .i64 n,v],.agg [.int .i64 m,w]] h λr h'=>r=.bool (decide (n=m)&&decide (xs=ys))∧Ext h.next h h':=by
 have e1:=hv.len
 have e2:=hw.len
 rw[au] at e1 e2
 obtain⟨vc,vo⟩:=hv.cells
 obtain⟨wc,wo⟩:=hw.cells
 refine HH pf22 ?_
 refine ab (ah (Mi0) ?_)
 have ga:∀ c,((h.new (.cells [.int .i64 n,v] 2 false)).new (.cells [.int .i64 m,w] 2 false)).get c=if c=h.next+1 then some (.cells [.int .i64 m,w] 2 false) else if c=h.next then some (.cells [.int .i64 n,v] 2 false) else h.get c:=λc=>by
  rw[AH.get_new,AH.get_new]
  rfl
 have x0:Ext h.next h ((h.new (.cells [.int .i64 n,v] 2 false)).new (.cells [.int .i64 m,w] 2 false)):=(HD (ae _)).trans (HD (by simp))
 generalize ((h.new (.cells [.int .i64 n,v] 2 false)).new (.cells [.int .i64 m,w] 2 false))=h1 at *
 have gA:h1.get h.next=some (.cells [.int .i64 n,v] 2 false):=by rw[ga,if_neg om,if_pos rfl]
 have gB:h1.get (h.next+1)=some (.cells [.int .i64 m,w] 2 false):=by rw[ga,if_pos rfl]
 have ra0:ar h1 h.next 0 1=some [.int .i64 n]:=bB gA rfl
 have ra1:ar h1 h.next 1 1=some [v]:=bB gA rfl
 have rb0:ar h1 (h.next+1) 0 1=some [.int .i64 m]:=bB gB rfl
 have rb1:ar h1 (h.next+1) 1 1=some [w]:=bB gB rfl
 have hv1:=hv.ext x0 (ae _)
 have hw1:=hw.ext x0 (ae _)
 by_cases q0:n=m
 case neg =>
  have c0:decide (n=m)=false:=aG q0
  refine ab (ab (ah (Mi3 ra0 rb0 c0) ?_))
  refine dv (Z0) (ab (ah (M0) ?_))
  exact bt ⟨.bool false,(by simp only[rs,rf22,am,aD,simprocAttr]<;>rfl),by rw[c0]; rfl,x0⟩
 have c0:decide (n=m)=true:=aI q0
 by_cases q:xs.length=ys.length
 case neg =>
  have c1:decide (((xs.length:Nat):Int)=((ys.length:Nat):Int))=false:=aG om
  refine ab (ab (ah (Mi8 ra0 rb0 ra1 rb1 e1 e2 c0 c1) ?_))
  refine dv (Z0) (ab (ah (M0) ?_))
  exact bt ⟨.bool false,(by simp only[rs,rf22,am,aD,simprocAttr]<;>rfl),by rw[aG (p:=xs=ys) (λe=>q (by rw[e])),gY],x0⟩
 have hn2:((xs.length:Nat):Int)=((ys.length:Nat):Int):=by rw[q]
 have c1:decide (((xs.length:Nat):Int)=((ys.length:Nat):Int))=true:=aI hn2
 refine ab (ab (ah (Mi8 ra0 rb0 ra1 rb1 e1 e2 c0 c1) ?_))
 refine cU (Z0) (aN ?_)
 refine ab (ab (ah (M0) ?_))
 refine eg (α:=Unit) (N:=xs.length) (λk _=>[(2,.ptr h.next 0),(3,.ptr (h.next+1) 0),(5,.int .i64 (k:Nat))]) (λk _ h'=>h'=h1∧xs.take k=ys.take k) () (Hi1 @bm) ⟨rfl,rfl⟩ ?_ ?_ ?_
 ·rintro k _ ts h2 hk ⟨rfl,j1⟩ ⟨f2,f3,f5,-⟩
  simp only at f2 f3 f5
  exact⟨_,(M5 f2 f5 ra1 e1 @bi),Z0,H3 f2 f3 f5⟩
 ·rintro k _ ts h2 hk ⟨rfl,j1⟩ ⟨f2,f3,f5,-⟩
  simp only at f2 f3 f5
  obtain⟨b1,p1,a1,r1,_⟩:=hv1.at (cF (f:=eE) hk)
  obtain⟨b2,p2,a2,r2,_⟩:=hw1.at (cF (f:=eE) (show k<ys.length by omega))
  have w1:=eF (k:=k) om
  refine ab (ah (M10 f2 f3 f5 ra1 rb1 a1 a2 r1 r2 @flat2) ?_)
  refine bg (t:=!decide (xs[k]=ys[k]'om)) (Z0) (λp=>?_) λp=>?_
  ·have p:¬ xs[k]=ys[k]'om:=by simpa using p
   refine ab (ah (M0) ?_)
   refine bt ⟨.bool false,(by simp only[rs,rf22,am,aD,simprocAttr]<;>rfl),?_,x0⟩
   rw[aG (p:=xs=ys),gY]
   intro e
   subst e
   exact p rfl
  ·have p:xs[k]=ys[k]'om:=by simpa using p
   exact aN ⟨(),⟨rfl,mO q hk j1 p⟩,_,(M2 f5 w1),H2 f2 f3⟩
 ·rintro _ ts h2 ⟨rfl,j1⟩ ⟨f2,f3,f5,-⟩
  rw[bp,q,bp] at j1
  refine ab (ah (M0) ?_)
  exact bt ⟨.bool true,(by simp only[rs,rf22,am,aD,simprocAttr]<;>rfl),by rw[c0,aI j1]; rfl,x0⟩
end Go.Proofs.YtahepnbflofndaaGreatDoor
