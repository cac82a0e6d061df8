/- Rows of numbers that are written to -/
import Derived.Test.YtahepnbflofndaaGreatDoorKAmS
import Derived.Sort.AssemblyPlain
import Derived.IntWalk
set_option linter.all false
namespace Go.Am
open Go.Sort (swp)
def hI (d:Array Int):List AV:=d.toList.map (AV.int .i64)
theorem gh (d:Array Int):(hI d).length=d.size:=by simp [hI]
def iX (cs:List AV) (o:Nat) (d:Array Int):AO:=.cells (dB cs o (hI d)) 1 false
theorem ny {cs:List AV}{o:Nat}{vs:List AV} (hr:o+vs.length≤cs.length) (h:(cs.drop o).take vs.length=vs):dB cs o vs=cs:=by
 unfold dB;have h2:cs.drop (o+vs.length)=(cs.drop o).drop vs.length:=by rw[Ml]
 rw[h2]
 conv=>lhs; lhs; rhs; rw[← h]
 rw[cB,cD,cD]
theorem gT {cs:List AV}{o:Nat}{vs:List AV} (hr:o+vs.length≤cs.length):(dB cs o vs).length=cs.length:=by
 simp only[dB,aN,aS,cz];omega
theorem fi {cs:List AV}{o:Nat}{vs:List AV} (hr:o+vs.length≤cs.length) (i:Nat):(dB cs o vs)[i]?=if o≤i∧i<o+vs.length then vs[i-o]? else cs[i]?:=by
 unfold dB;by_cases h1:i<o
 ·rw[cB,bJ (by rw[aS]; omega),cQ,if_pos h1,if_neg om]
 ·have hl:(cs.take o).length=o:=by rw[aS]; omega
  by_cases h2:i<o+vs.length
  ·rw[if_pos ⟨om,h2⟩,cB,bE om,hl,bJ om]
  ·rw[if_neg om,bE (by rw[aN]; omega),aN,hl,fC];congr 1;omega
theorem uM {cs:List AV}{o i:Nat}{vs:List AV}{v:AV} (hr:o+vs.length≤cs.length) (hi:i<vs.length):dB (dB cs o vs) (o+i) [v]=dB cs o (vs.set i v):=by
 have hr2:o+(vs.set i v).length≤cs.length:=by rw[ct]; exact hr
 have hl:=gT hr;refine cW λk=>?_;rw[fi (by rw[hl]; simp only[bf,bt]; omega),fi hr2,fi hr,ct];simp only[bf,bt];by_cases e:k=o+i
 ·subst e;rw[if_pos ⟨ab _,om⟩,if_pos ⟨om,om⟩];have e1:o+i-(o+i)=0:=om;have e2:o+i-o=i:=om;rw[e1,e2,dY om];rfl
 ·rw[if_neg om];by_cases h1:o≤k∧k<o+vs.length
  ·rw[if_pos h1,if_pos h1,dq om]
  ·rw[if_neg h1,if_neg h1]
theorem Kg {d:Array Int}{i:Nat} (hi:i<d.size):(hI d)[i]?=some (.int .i64 d[i]!):=by
 unfold hI;rw[aX,ew,eL hi];simp only[aQ,getElem!_pos,hi]
theorem He {d:Array Int}{i:Nat}{x:Int}:(hI d).set i (.int .i64 x)=hI (d.setIfInBounds i x):=by
 unfold hI;rw[Array.toList_setIfInBounds,List.map_set]
theorem qD {h:AH}{b o i:Nat}{cs:List AV}{d:Array Int} (hg:h.get b=some (iX cs o d)) (hr:o+d.size≤cs.length) (hi:i<d.size):ak h b (o+i) 1=some [.int .i64 d[i]!]:=by
 have hr':o+(hI d).length≤cs.length:=by rw[gh]; exact hr
 have hk:(dB cs o (hI d))[o+i]?=some (.int .i64 d[i]!):=by
  rw[fi hr',if_pos ⟨om,by rw[gh]; omega⟩];have e2:o+i-o=i:=om;rw[e2,Kg hi]
 obtain⟨hlt,hk⟩:=aI.1 hk;rw[aU hg,if_pos om,bX hlt,hk];rfl
theorem Ar {h:AH}{b o i:Nat}{cs:List AV}{d:Array Int}{x:Int} (hg:h.get b=some (iX cs o d)) (hr:o+d.size≤cs.length) (hi:i<d.size) :
 ∃ h',bQ h b (o+i) [.int .i64 x]=some h'∧Upd h h' b (iX cs o (d.setIfInBounds i x)):=by
 have hr':o+(hI d).length≤cs.length:=by rw[gh]; exact hr
 have e:dB (dB cs o (hI d)) (o+i) [.int .i64 x]=dB cs o (hI (d.setIfInBounds i x)):=by rw[uM hr' (by rw[gh]; exact hi),He]
 refine⟨_,?_,Mv hg⟩;rw[dp hg,if_pos (by rw[gT hr']; simp only[bf,bt]; omega),e];rfl
theorem IQ {h:AH}{b o i j:Nat}{cs:List AV}{d:Array Int} (hg:h.get b=some (iX cs o d)) (hr:o+d.size≤cs.length) (hi:i<d.size) (hj:j<d.size) :
 ∃ h1 h2,bQ h b (o+i) [.int .i64 d[j]!]=some h1∧bQ h1 b (o+j) [.int .i64 d[i]!]=some h2∧Upd h h2 b (iX cs o (swp d i j)):=by
 obtain⟨h1,w1,u1⟩:=Ar (x:=d[j]!) hg hr hi;obtain⟨h2,w2,u2⟩:=Ar (x:=d[i]!) (i:=j) u1.get (by simpa using hr) (by simpa using hj);exact⟨h1,h2,w1,w2,u1.trans u2⟩
theorem Da (d:Array Int) (i j:Nat):(swp d i j).size=d.size:=Sort.size_swp d i j
structure Mod (n:Nat) (h h':AH) (s:Nat) (o:AO):Prop where
 nx:h.next≤h'.next
 get:h'.get s=some o
 gt:∀ c,c≠s→c<n→h'.get c=h.get c
 ty:∀ c,c<n→h'.tyOf c=h.tyOf c
theorem Upd.mod {n:Nat}{h h':AH}{s:Nat}{o:AO} (a:Upd h h' s o):Mod n h h' s o:=⟨by rw[a.nx]; exact ab _,a.get,λc hc _=>a.ne hc,λc _=>a.ty c⟩
theorem Mod.mono {n m:Nat}{h h':AH}{s:Nat}{o:AO} (a:Mod n h h' s o) (hm:m≤n):Mod m h h' s o:=⟨a.nx,a.get,λc hc hn=>a.gt c hc om,λc hn=>a.ty c om⟩
theorem Mod.toExt {n:Nat}{h h':AH}{s:Nat}{o:AO} (a:Mod n h h' s o) (hs:n≤s):Ext n h h':=⟨a.nx,λc hc=>a.gt c om hc,a.ty⟩
theorem cJ {i n:Nat} (hi:i<n):eR ((i:Nat):Int) n=some i:=by
 unfold eR;rw[if_pos ⟨om,om⟩];simp
theorem fD {z:Int} (h1:-9223372036854775808≤z) (h2:z≤9223372036854775807):IntKind.i64.wrap z=z:=IntWalk.i64_in z ⟨h1,h2⟩
theorem bo {P:RP}{b:Nat}{l l2:List ROper}{s:Option (Tm×AH)}{K:Tm→AH→Prop}{ts:Tm}{h:AH}{d:Option Nat}{f:FuncId}{args:List RO}{g:Option (Nat×Bool)}{nm:Option Nat}{vs:List AV}{Q:AV→AH→Prop} (n:Nat)
 (hs:km b (l.take n) s=some (ts,h)) (hd:l.drop n=⟨d,.call f args,g,nm,[]⟩::l2) (hw:wanted ts g=some true) (ha:args.map (RO.ev ts)=vs) (hc:C P f vs h Q)
 (hk:∀ v h',Q v h'→G P b l2 (some (dt ts d v,h')) K):G P b l s K:=by
 subst ha;rw[← cD n l];refine sk ?_;rw[hs,hd];exact yl hw (hc.mono hk)
theorem iZ {P:RP}{b:Nat}{l:List ROper}{ts:Tm}{h:AH}{K:Tm→AH→Prop}{d:Option Nat}{f:FuncId}{args:List RO}{g:Option (Nat×Bool)}{nm:Option Nat}{vs:List AV}{Q:AV→AH→Prop}
 (hw:wanted ts g=some true) (ha:args.map (RO.ev ts)=vs) (hc:C P f vs h Q) (hk:∀ v h',Q v h'→G P b l (some (dt ts d v,h')) K):G P b (⟨d,.call f args,g,nm,[]⟩::l) (some (ts,h)) K:=by
 subst ha;exact yl hw (hc.mono hk)
theorem eW {P:RP}{b:Nat}{l l2:List ROper}{s:Option (Tm×AH)}{K:Tm→AH→Prop}{ts:Tm}{h:AH}{d:Option Nat}{f:FuncId}{args:List RO}{g:Option (Nat×Bool)}{nm:Option Nat} (n:Nat)
 (hs:km b (l.take n) s=some (ts,h)) (hd:l.drop n=⟨d,.call f args,g,nm,[]⟩::l2) (hw:wanted ts g=some false)
 (hk:G P b l2 (some (dt ts d .un,h)) K):G P b l s K:=by
 rw[← cD n l];refine sk ?_;rw[hs,hd];refine Lh ?_;rw[nr,hw];exact hk
end Go.Am
