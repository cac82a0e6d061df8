/- Rows of numbers that are written to -/
import Derived.Test.YtpeemonpdlifbaaUAmS
import Derived.Sort.AssemblyPlain
import Derived.IntWalk
set_option linter.all false
namespace Go.Am
open Go.Sort (swp)
def fX (d:Array Int):List AV:=d.toList.map (AV.int .i64)
theorem gQ (d:Array Int):(fX d).length=d.size:=by simp [fX]
def lM (cs:List AV) (o:Nat) (d:Array Int):AO:=.cells (dA cs o (fX d)) 1 false
theorem pO {cs:List AV}{o:Nat}{vs:List AV} (hr:o+vs.length≤cs.length) (h:(cs.drop o).take vs.length=vs):dA cs o vs=cs:=by
 unfold dA
 have h2:cs.drop (o+vs.length)=(cs.drop o).drop vs.length:=by rw[Kb]
 rw[h2]
 conv=>lhs; lhs; rhs; rw[← h]
 rw[bP,cT,cT]
theorem jM {cs:List AV}{o:Nat}{vs:List AV} (hr:o+vs.length≤cs.length):(dA cs o vs).length=cs.length:=by
 simp only[dA,aJ,bF,dL]
 omega
theorem fW {cs:List AV}{o:Nat}{vs:List AV} (hr:o+vs.length≤cs.length) (i:Nat):(dA cs o vs)[i]?=if o≤i∧i<o+vs.length then vs[i-o]? else cs[i]?:=by
 unfold dA
 by_cases h1:i<o
 ·rw[bP,bC (by rw[bF]; omega),cw,if_pos h1,if_neg om]
 ·have hl:(cs.take o).length=o:=by rw[bF]; omega
  by_cases h2:i<o+vs.length
  ·rw[if_pos ⟨om,h2⟩,bP,br om,hl,bC om]
  ·rw[if_neg om,br (by rw[aJ]; omega),aJ,hl,er]
   congr 1
   omega
theorem sD {cs:List AV}{o i:Nat}{vs:List AV}{v:AV} (hr:o+vs.length≤cs.length) (hi:i<vs.length):dA (dA cs o vs) (o+i) [v]=dA cs o (vs.set i v):=by
 have hr2:o+(vs.set i v).length≤cs.length:=by rw[cV]; exact hr
 have hl:=jM hr
 refine dZ λk=>?_
 rw[fW (by rw[hl]; simp only[au,aQ]; omega),fW hr2,fW hr,cV]
 simp only[au,aQ]
 by_cases e:k=o+i
 ·subst e
  rw[if_pos ⟨ab _,om⟩,if_pos ⟨om,om⟩]
  have e1:o+i-(o+i)=0:=om
  have e2:o+i-o=i:=om
  rw[e1,e2,cL om]
  rfl
 ·rw[if_neg om]
  by_cases h1:o≤k∧k<o+vs.length
  ·rw[if_pos h1,if_pos h1,cM om]
  ·rw[if_neg h1,if_neg h1]
theorem HW {d:Array Int}{i:Nat} (hi:i<d.size):(fX d)[i]?=some (.int .i64 d[i]!):=by
 unfold fX
 rw[aw,dW,eD hi]
 simp only[aD,getElem!_pos,hi]
theorem ES {d:Array Int}{i:Nat}{x:Int}:(fX d).set i (.int .i64 x)=fX (d.setIfInBounds i x):=by
 unfold fX
 rw[Array.toList_setIfInBounds,Dd]
theorem Ed {h:AH}{b o i:Nat}{cs:List AV}{d:Array Int} (hg:h.get b=some (lM cs o d)) (hr:o+d.size≤cs.length) (hi:i<d.size):ak h b (o+i) 1=some [.int .i64 d[i]!]:=by
 have hr':o+(fX d).length≤cs.length:=by rw[gQ]; exact hr
 have hk:(dA cs o (fX d))[o+i]?=some (.int .i64 d[i]!):=by
  rw[fW hr',if_pos ⟨om,by rw[gQ]; omega⟩]
  have e2:o+i-o=i:=om
  rw[e2,HW hi]
 obtain⟨hlt,hk⟩:=aI.1 hk
 rw[aU hg,if_pos om,cF hlt,hk]
 rfl
theorem Df {h:AH}{b o i:Nat}{cs:List AV}{d:Array Int}{x:Int} (hg:h.get b=some (lM cs o d)) (hr:o+d.size≤cs.length) (hi:i<d.size) :
 ∃ h',bU h b (o+i) [.int .i64 x]=some h'∧Upd h h' b (lM cs o (d.setIfInBounds i x)):=by
 have hr':o+(fX d).length≤cs.length:=by rw[gQ]; exact hr
 have e:dA (dA cs o (fX d)) (o+i) [.int .i64 x]=dA cs o (fX (d.setIfInBounds i x)):=by rw[sD hr' (by rw[gQ]; exact hi),ES]
 refine⟨_,?_,Kk hg⟩
 rw[eY hg,if_pos (by rw[jM hr']; simp only[au,aQ]; omega),e]
 rfl
theorem Gv {h:AH}{b o i j:Nat}{cs:List AV}{d:Array Int} (hg:h.get b=some (lM cs o d)) (hr:o+d.size≤cs.length) (hi:i<d.size) (hj:j<d.size) :
 ∃ h1 h2,bU h b (o+i) [.int .i64 d[j]!]=some h1∧bU h1 b (o+j) [.int .i64 d[i]!]=some h2∧Upd h h2 b (lM cs o (swp d i j)):=by
 obtain⟨h1,w1,u1⟩:=Df (x:=d[j]!) hg hr hi
 obtain⟨h2,w2,u2⟩:=Df (x:=d[i]!) (i:=j) u1.get (by simpa using hr) (by simpa using hj)
 exact⟨h1,h2,w1,w2,u1.trans u2⟩
theorem Bg (d:Array Int) (i j:Nat):(swp d i j).size=d.size:=Sort.size_swp d i j
structure Mod (n:Nat) (h h':AH) (s:Nat) (o:AO):Prop where
 nx:h.next≤h'.next
 get:h'.get s=some o
 gt:∀ c,c≠s→c<n→h'.get c=h.get c
 ty:∀ c,c<n→h'.tyOf c=h.tyOf c
theorem Upd.mod {n:Nat}{h h':AH}{s:Nat}{o:AO} (a:Upd h h' s o):Mod n h h' s o:=⟨by rw[a.nx]; exact ab _,a.get,λc hc _=>a.ne hc,λc _=>a.ty c⟩
theorem Mod.mono {n m:Nat}{h h':AH}{s:Nat}{o:AO} (a:Mod n h h' s o) (hm:m≤n):Mod m h h' s o:=⟨a.nx,a.get,λc hc hn=>a.gt c hc om,λc hn=>a.ty c om⟩
theorem Mod.toExt {n:Nat}{h h':AH}{s:Nat}{o:AO} (a:Mod n h h' s o) (hs:n≤s):Ext n h h':=⟨a.nx,λc hc=>a.gt c om hc,a.ty⟩
theorem dm {i n:Nat} (hi:i<n):fM ((i:Nat):Int) n=some i:=by
 unfold fM
 rw[if_pos ⟨om,om⟩]
 simp
theorem eL {z:Int} (h1:-9223372036854775808≤z) (h2:z≤9223372036854775807):IntKind.i64.wrap z=z:=IntWalk.i64_in z ⟨h1,h2⟩
theorem bt {P:RP}{b:Nat}{l l2:List ROper}{s:Option (Tm×AH)}{K:Tm→AH→Prop}{ts:Tm}{h:AH}{d:Option Nat}{f:FuncId}{args:List RO}{g:Option (Nat×Bool)}{nm:Option Nat}{vs:List AV}{Q:AV→AH→Prop} (n:Nat)
 (hs:kb b (l.take n) s=some (ts,h)) (hd:l.drop n=⟨d,.call f args,g,nm,[]⟩::l2) (hw:wanted ts g=some true) (ha:args.map (RO.ev ts)=vs) (hc:C P f vs h Q)
 (hk:∀ v h',Q v h'→G P b l2 (some (dQ ts d v,h')) K):G P b l s K:=by
 subst ha
 rw[← cT n l]
 refine qh ?_
 rw[hs,hd]
 exact Ba hw (hc.mono hk)
theorem lT {P:RP}{b:Nat}{l:List ROper}{ts:Tm}{h:AH}{K:Tm→AH→Prop}{d:Option Nat}{f:FuncId}{args:List RO}{g:Option (Nat×Bool)}{nm:Option Nat}{vs:List AV}{Q:AV→AH→Prop}
 (hw:wanted ts g=some true) (ha:args.map (RO.ev ts)=vs) (hc:C P f vs h Q) (hk:∀ v h',Q v h'→G P b l (some (dQ ts d v,h')) K):G P b (⟨d,.call f args,g,nm,[]⟩::l) (some (ts,h)) K:=by
 subst ha
 exact Ba hw (hc.mono hk)
theorem ft {P:RP}{b:Nat}{l l2:List ROper}{s:Option (Tm×AH)}{K:Tm→AH→Prop}{ts:Tm}{h:AH}{d:Option Nat}{f:FuncId}{args:List RO}{g:Option (Nat×Bool)}{nm:Option Nat} (n:Nat)
 (hs:kb b (l.take n) s=some (ts,h)) (hd:l.drop n=⟨d,.call f args,g,nm,[]⟩::l2) (hw:wanted ts g=some false)
 (hk:G P b l2 (some (dQ ts d .un,h)) K):G P b l s K:=by
 rw[← cT n l]
 refine qh ?_
 rw[hs,hd]
 refine Kc ?_
 rw[mf,hw]
 exact hk
end Go.Am
