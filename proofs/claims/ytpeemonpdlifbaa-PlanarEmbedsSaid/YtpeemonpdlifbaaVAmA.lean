/- Rows of numbers that are written to -/
import Derived.Test.YtpeemonpdlifbaaVAmS
import Derived.Sort.AssemblyPlain
import Derived.IntWalk
set_option linter.all false
namespace Go.Am
open Go.Sort (swp)
def gI (d:Array Int):List AV:=d.toList.map (AV.int .i64)
theorem gP (d:Array Int):(gI d).length=d.size:=by simp [gI]
def lS (cs:List AV) (o:Nat) (d:Array Int):AO:=.cells (dL cs o (gI d)) 1 false
theorem pK {cs:List AV}{o:Nat}{vs:List AV} (hr:o+vs.length≤cs.length) (h:(cs.drop o).take vs.length=vs):dL cs o vs=cs:=by
 unfold dL
 have h2:cs.drop (o+vs.length)=(cs.drop o).drop vs.length:=by rw[Kz]
 rw[h2]
 conv=>lhs; lhs; rhs; rw[← h]
 rw[bQ,cA,cA]
theorem jN {cs:List AV}{o:Nat}{vs:List AV} (hr:o+vs.length≤cs.length):(dL cs o vs).length=cs.length:=by
 simp only[dL,aC,bK,de]
 omega
theorem fV {cs:List AV}{o:Nat}{vs:List AV} (hr:o+vs.length≤cs.length) (i:Nat):(dL cs o vs)[i]?=if o≤i∧i<o+vs.length then vs[i-o]? else cs[i]?:=by
 unfold dL
 by_cases h1:i<o
 ·rw[bQ,aX (by rw[bK]; omega),cR,if_pos h1,if_neg om]
 ·have hl:(cs.take o).length=o:=by rw[bK]; omega
  by_cases h2:i<o+vs.length
  ·rw[if_pos ⟨om,h2⟩,bQ,aR om,hl,aX om]
  ·rw[if_neg om,aR (by rw[aC]; omega),aC,hl,eF]
   congr 1
   omega
theorem sL {cs:List AV}{o i:Nat}{vs:List AV}{v:AV} (hr:o+vs.length≤cs.length) (hi:i<vs.length):dL (dL cs o vs) (o+i) [v]=dL cs o (vs.set i v):=by
 have hr2:o+(vs.set i v).length≤cs.length:=by rw[cV]; exact hr
 have hl:=jN hr
 refine eC λk=>?_
 rw[fV (by rw[hl]; simp only[aB,aO]; omega),fV hr2,fV hr,cV]
 simp only[aB,aO]
 by_cases e:k=o+i
 ·subst e
  rw[if_pos ⟨ab _,om⟩,if_pos ⟨om,om⟩]
  have e1:o+i-(o+i)=0:=om
  have e2:o+i-o=i:=om
  rw[e1,e2,cS om]
  rfl
 ·rw[if_neg om]
  by_cases h1:o≤k∧k<o+vs.length
  ·rw[if_pos h1,if_pos h1,cW om]
  ·rw[if_neg h1,if_neg h1]
theorem Io {d:Array Int}{i:Nat} (hi:i<d.size):(gI d)[i]?=some (.int .i64 d[i]!):=by
 unfold gI
 rw[aF,ez,eL hi]
 simp only[aG,getElem!_pos,hi]
theorem Fr {d:Array Int}{i:Nat}{x:Int}:(gI d).set i (.int .i64 x)=gI (d.setIfInBounds i x):=by
 unfold gI
 rw[Array.toList_setIfInBounds,Dw]
theorem Ew {h:AH}{b o i:Nat}{cs:List AV}{d:Array Int} (hg:h.get b=some (lS cs o d)) (hr:o+d.size≤cs.length) (hi:i<d.size):ak h b (o+i) 1=some [.int .i64 d[i]!]:=by
 have hr':o+(gI d).length≤cs.length:=by rw[gP]; exact hr
 have hk:(dL cs o (gI d))[o+i]?=some (.int .i64 d[i]!):=by
  rw[fV hr',if_pos ⟨om,by rw[gP]; omega⟩]
  have e2:o+i-o=i:=om
  rw[e2,Io hi]
 obtain⟨hlt,hk⟩:=aL.1 hk
 rw[aW hg,if_pos om,cw hlt,hk]
 rfl
theorem Dz {h:AH}{b o i:Nat}{cs:List AV}{d:Array Int}{x:Int} (hg:h.get b=some (lS cs o d)) (hr:o+d.size≤cs.length) (hi:i<d.size) :
 ∃ h',bX h b (o+i) [.int .i64 x]=some h'∧Upd h h' b (lS cs o (d.setIfInBounds i x)):=by
 have hr':o+(gI d).length≤cs.length:=by rw[gP]; exact hr
 have e:dL (dL cs o (gI d)) (o+i) [.int .i64 x]=dL cs o (gI (d.setIfInBounds i x)):=by rw[sL hr' (by rw[gP]; exact hi),Fr]
 refine⟨_,?_,KJ hg⟩
 rw[fz hg,if_pos (by rw[jN hr']; simp only[aB,aO]; omega),e]
 rfl
theorem GQ {h:AH}{b o i j:Nat}{cs:List AV}{d:Array Int} (hg:h.get b=some (lS cs o d)) (hr:o+d.size≤cs.length) (hi:i<d.size) (hj:j<d.size) :
 ∃ h1 h2,bX h b (o+i) [.int .i64 d[j]!]=some h1∧bX h1 b (o+j) [.int .i64 d[i]!]=some h2∧Upd h h2 b (lS cs o (swp d i j)):=by
 obtain⟨h1,w1,u1⟩:=Dz (x:=d[j]!) hg hr hi
 obtain⟨h2,w2,u2⟩:=Dz (x:=d[i]!) (i:=j) u1.get (by simpa using hr) (by simpa using hj)
 exact⟨h1,h2,w1,w2,u1.trans u2⟩
theorem BC (d:Array Int) (i j:Nat):(swp d i j).size=d.size:=Sort.size_swp d i j
structure Mod (n:Nat) (h h':AH) (s:Nat) (o:AO):Prop where
 nx:h.next≤h'.next
 get:h'.get s=some o
 gt:∀ c,c≠s→c<n→h'.get c=h.get c
 ty:∀ c,c<n→h'.tyOf c=h.tyOf c
theorem Upd.mod {n:Nat}{h h':AH}{s:Nat}{o:AO} (a:Upd h h' s o):Mod n h h' s o:=⟨by rw[a.nx]; exact ab _,a.get,λc hc _=>a.ne hc,λc _=>a.ty c⟩
theorem Mod.mono {n m:Nat}{h h':AH}{s:Nat}{o:AO} (a:Mod n h h' s o) (hm:m≤n):Mod m h h' s o:=⟨a.nx,a.get,λc hc hn=>a.gt c hc om,λc hn=>a.ty c om⟩
theorem Mod.toExt {n:Nat}{h h':AH}{s:Nat}{o:AO} (a:Mod n h h' s o) (hs:n≤s):Ext n h h':=⟨a.nx,λc hc=>a.gt c om hc,a.ty⟩
theorem dE {i n:Nat} (hi:i<n):fL ((i:Nat):Int) n=some i:=by
 unfold fL
 rw[if_pos ⟨om,om⟩]
 simp
theorem et {z:Int} (h1:-9223372036854775808≤z) (h2:z≤9223372036854775807):IntKind.i64.wrap z=z:=IntWalk.i64_in z ⟨h1,h2⟩
theorem bu {P:RP}{b:Nat}{l l2:List ROper}{s:Option (Tm×AH)}{K:Tm→AH→Prop}{ts:Tm}{h:AH}{d:Option Nat}{f:FuncId}{args:List RO}{g:Option (Nat×Bool)}{nm:Option Nat}{vs:List AV}{Q:AV→AH→Prop} (n:Nat)
 (hs:kb b (l.take n) s=some (ts,h)) (hd:l.drop n=⟨d,.call f args,g,nm,[]⟩::l2) (hw:wanted ts g=some true) (ha:args.map (RO.ev ts)=vs) (hc:C P f vs h Q)
 (hk:∀ v h',Q v h'→G P b l2 (some (dY ts d v,h')) K):G P b l s K:=by
 subst ha
 rw[← cA n l]
 refine qd ?_
 rw[hs,hd]
 exact Bv hw (hc.mono hk)
theorem mc {P:RP}{b:Nat}{l:List ROper}{ts:Tm}{h:AH}{K:Tm→AH→Prop}{d:Option Nat}{f:FuncId}{args:List RO}{g:Option (Nat×Bool)}{nm:Option Nat}{vs:List AV}{Q:AV→AH→Prop}
 (hw:wanted ts g=some true) (ha:args.map (RO.ev ts)=vs) (hc:C P f vs h Q) (hk:∀ v h',Q v h'→G P b l (some (dY ts d v,h')) K):G P b (⟨d,.call f args,g,nm,[]⟩::l) (some (ts,h)) K:=by
 subst ha
 exact Bv hw (hc.mono hk)
theorem mR {P:RP}{b:Nat}{l l2:List ROper}{s:Option (Tm×AH)}{K:Tm→AH→Prop}{ts:Tm}{h:AH}{d:Option Nat}{f:FuncId}{args:List RO}{g:Option (Nat×Bool)}{nm:Option Nat} (n:Nat)
 (hs:kb b (l.take n) s=some (ts,h)) (hd:l.drop n=⟨d,.call f args,g,nm,[]⟩::l2) (hw:wanted ts g=some false)
 (hk:G P b l2 (some (dY ts d .un,h)) K):G P b l s K:=by
 rw[← cA n l]
 refine qd ?_
 rw[hs,hd]
 refine KA ?_
 rw[mr,hw]
 exact hk
end Go.Am
