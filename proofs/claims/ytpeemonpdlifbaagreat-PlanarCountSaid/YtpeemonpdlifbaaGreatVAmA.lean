/- Rows of numbers that are written to -/
import Derived.Test.YtpeemonpdlifbaaGreatVAmS
import Derived.Sort.AssemblyPlain
import Derived.IntWalk
set_option linter.all false
namespace Go.Am
open Go.Sort (swp)
def gH (d:Array Int):List AV:=d.toList.map (AV.int .i64)
theorem gR (d:Array Int):(gH d).length=d.size:=by simp [gH]
def lN (cs:List AV) (o:Nat) (d:Array Int):AO:=.cells (dI cs o (gH d)) 1 false
theorem pS {cs:List AV}{o:Nat}{vs:List AV} (hr:o+vs.length≤cs.length) (h:(cs.drop o).take vs.length=vs):dI cs o vs=cs:=by
 unfold dI
 have h2:cs.drop (o+vs.length)=(cs.drop o).drop vs.length:=by rw[Ls]
 rw[h2]
 conv=>lhs; lhs; rhs; rw[← h]
 rw[bP,cD,cD]
theorem jK {cs:List AV}{o:Nat}{vs:List AV} (hr:o+vs.length≤cs.length):(dI cs o vs).length=cs.length:=by
 simp only[dI,aI,bS,dR]
 omega
theorem gf {cs:List AV}{o:Nat}{vs:List AV} (hr:o+vs.length≤cs.length) (i:Nat):(dI cs o vs)[i]?=if o≤i∧i<o+vs.length then vs[i-o]? else cs[i]?:=by
 unfold dI
 by_cases h1:i<o
 ·rw[bP,bC (by rw[bS]; omega),cQ,if_pos h1,if_neg om]
 ·have hl:(cs.take o).length=o:=by rw[bS]; omega
  by_cases h2:i<o+vs.length
  ·rw[if_pos ⟨om,h2⟩,bP,aU om,hl,bC om]
  ·rw[if_neg om,aU (by rw[aI]; omega),aI,hl,ew]
   congr 1
   omega
theorem tp {cs:List AV}{o i:Nat}{vs:List AV}{v:AV} (hr:o+vs.length≤cs.length) (hi:i<vs.length):dI (dI cs o vs) (o+i) [v]=dI cs o (vs.set i v):=by
 have hr2:o+(vs.set i v).length≤cs.length:=by rw[bE]; exact hr
 have hl:=jK hr
 refine et λk=>?_
 rw[gf (by rw[hl]; simp only[aw,aP]; omega),gf hr2,gf hr,bE]
 simp only[aw,aP]
 by_cases e:k=o+i
 ·subst e
  rw[if_pos ⟨ae _,om⟩,if_pos ⟨om,om⟩]
  have e1:o+i-(o+i)=0:=om
  have e2:o+i-o=i:=om
  rw[e1,e2,cR om]
  rfl
 ·rw[if_neg om]
  by_cases h1:o≤k∧k<o+vs.length
  ·rw[if_pos h1,if_pos h1,cV om]
  ·rw[if_neg h1,if_neg h1]
theorem Je {d:Array Int}{i:Nat} (hi:i<d.size):(gH d)[i]?=some (.int .i64 d[i]!):=by
 unfold gH
 rw[aG,eq,eD hi]
 simp only[aH,getElem!_pos,hi]
theorem FQ {d:Array Int}{i:Nat}{x:Int}:(gH d).set i (.int .i64 x)=gH (d.setIfInBounds i x):=by
 unfold gH
 rw[Array.toList_setIfInBounds,kI]
theorem ES {h:AH}{b o i:Nat}{cs:List AV}{d:Array Int} (hg:h.get b=some (lN cs o d)) (hr:o+d.size≤cs.length) (hi:i<d.size):ar h b (o+i) 1=some [.int .i64 d[i]!]:=by
 have hr':o+(gH d).length≤cs.length:=by rw[gR]; exact hr
 have hk:(dI cs o (gH d))[o+i]?=some (.int .i64 d[i]!):=by
  rw[gf hr',if_pos ⟨om,by rw[gR]; omega⟩]
  have e2:o+i-o=i:=om
  rw[e2,Je hi]
 obtain⟨hlt,hk⟩:=aK.1 hk
 rw[bg hg,if_pos om,bX hlt,hk]
 rfl
theorem DT {h:AH}{b o i:Nat}{cs:List AV}{d:Array Int}{x:Int} (hg:h.get b=some (lN cs o d)) (hr:o+d.size≤cs.length) (hi:i<d.size) :
 ∃ h',bZ h b (o+i) [.int .i64 x]=some h'∧Upd h h' b (lN cs o (d.setIfInBounds i x)):=by
 have hr':o+(gH d).length≤cs.length:=by rw[gR]; exact hr
 have e:dI (dI cs o (gH d)) (o+i) [.int .i64 x]=dI cs o (gH (d.setIfInBounds i x)):=by rw[tp hr' (by rw[gR]; exact hi),FQ]
 refine⟨_,?_,LA hg⟩
 rw[fy hg,if_pos (by rw[jK hr']; simp only[aw,aP]; omega),e]
 rfl
theorem Hy {h:AH}{b o i j:Nat}{cs:List AV}{d:Array Int} (hg:h.get b=some (lN cs o d)) (hr:o+d.size≤cs.length) (hi:i<d.size) (hj:j<d.size) :
 ∃ h1 h2,bZ h b (o+i) [.int .i64 d[j]!]=some h1∧bZ h1 b (o+j) [.int .i64 d[i]!]=some h2∧Upd h h2 b (lN cs o (swp d i j)):=by
 obtain⟨h1,w1,u1⟩:=DT (x:=d[j]!) hg hr hi
 obtain⟨h2,w2,u2⟩:=DT (x:=d[i]!) (i:=j) u1.get (by simpa using hr) (by simpa using hj)
 exact⟨h1,h2,w1,w2,u1.trans u2⟩
theorem BW (d:Array Int) (i j:Nat):(swp d i j).size=d.size:=Sort.size_swp d i j
structure Mod (n:Nat) (h h':AH) (s:Nat) (o:AO):Prop where
 nx:h.next≤h'.next
 get:h'.get s=some o
 gt:∀ c,c≠s→c<n→h'.get c=h.get c
 ty:∀ c,c<n→h'.tyOf c=h.tyOf c
theorem Upd.mod {n:Nat}{h h':AH}{s:Nat}{o:AO} (a:Upd h h' s o):Mod n h h' s o:=⟨by rw[a.nx]; exact ae _,a.get,λc hc _=>a.ne hc,λc _=>a.ty c⟩
theorem Mod.refl {n:Nat}{h:AH}{s:Nat}{o:AO} (hg:h.get s=some o):Mod n h h s o:=⟨ae _,hg,λ_ _ _=>rfl,λ_ _=>rfl⟩
theorem Mod.trans {n:Nat}{h h1 h2:AH}{s:Nat}{o1 o2:AO} (a:Mod n h h1 s o1) (b:Mod n h1 h2 s o2):Mod n h h2 s o2 :=
 ⟨cN a.nx b.nx,b.get,λc hc hn=>(b.gt c hc hn).trans (a.gt c hc hn),λc hn=>(b.ty c hn).trans (a.ty c hn)⟩
theorem Mod.mono {n m:Nat}{h h':AH}{s:Nat}{o:AO} (a:Mod n h h' s o) (hm:m≤n):Mod m h h' s o:=⟨a.nx,a.get,λc hc hn=>a.gt c hc om,λc hn=>a.ty c om⟩
theorem Mod.upd {n:Nat}{h h1 h2:AH}{s:Nat}{o1 o2:AO} (a:Mod n h h1 s o1) (b:Upd h1 h2 s o2):Mod n h h2 s o2:=a.trans b.mod
theorem Mod.ext {n:Nat}{h h1 h2:AH}{s:Nat}{o:AO} (a:Mod n h h1 s o) (hs:s<n) (b:Ext n h1 h2):Mod n h h2 s o :=
 ⟨cN a.nx b.nx,by rw[b.gt _ hs]; exact a.get,λc hc hn=>(b.gt c hn).trans (a.gt c hc hn),λc hn=>(b.ty c hn).trans (a.ty c hn)⟩
theorem Ext.mod {n:Nat}{h h1 h2:AH}{s:Nat}{o:AO} (a:Ext n h h1) (b:Mod n h1 h2 s o):Mod n h h2 s o :=
 ⟨cN a.nx b.nx,b.get,λc hc hn=>(b.gt c hc hn).trans (a.gt c hn),λc hn=>(b.ty c hn).trans (a.ty c hn)⟩
theorem Mod.toExt {n:Nat}{h h':AH}{s:Nat}{o:AO} (a:Mod n h h' s o) (hs:n≤s):Ext n h h':=⟨a.nx,λc hc=>a.gt c om hc,a.ty⟩
theorem dU {i n:Nat} (hi:i<n):fU ((i:Nat):Int) n=some i:=by
 unfold fU
 rw[if_pos ⟨om,om⟩]
 simp
theorem fz {z:Int} (h1:-9223372036854775808≤z) (h2:z≤9223372036854775807):IntKind.i64.wrap z=z:=IntWalk.i64_in z ⟨h1,h2⟩
theorem bt {P:RP}{b:Nat}{l l2:List ROper}{s:Option (Tm×AH)}{K:Tm→AH→Prop}{ts:Tm}{h:AH}{d:Option Nat}{f:FuncId}{args:List RO}{g:Option (Nat×Bool)}{nm:Option Nat}{vs:List AV}{Q:AV→AH→Prop} (n:Nat)
 (hs:km b (l.take n) s=some (ts,h)) (hd:l.drop n=⟨d,.call f args,g,nm,[]⟩::l2) (hw:wanted ts g=some true) (ha:args.map (RO.ev ts)=vs) (hc:C P f vs h Q)
 (hk:∀ v h',Q v h'→G P b l2 (some (dY ts d v,h')) K):G P b l s K:=by
 subst ha
 rw[← cD n l]
 refine qq ?_
 rw[hs,hd]
 exact BQ hw (hc.mono hk)
theorem nh {P:RP}{b:Nat}{l:List ROper}{ts:Tm}{h:AH}{K:Tm→AH→Prop}{d:Option Nat}{f:FuncId}{args:List RO}{g:Option (Nat×Bool)}{nm:Option Nat}{vs:List AV}{Q:AV→AH→Prop}
 (hw:wanted ts g=some true) (ha:args.map (RO.ev ts)=vs) (hc:C P f vs h Q) (hk:∀ v h',Q v h'→G P b l (some (dY ts d v,h')) K):G P b (⟨d,.call f args,g,nm,[]⟩::l) (some (ts,h)) K:=by
 subst ha
 exact BQ hw (hc.mono hk)
theorem jZ {P:RP}{b:Nat}{l l2:List ROper}{s:Option (Tm×AH)}{K:Tm→AH→Prop}{ts:Tm}{h:AH}{d:Option Nat}{f:FuncId}{args:List RO}{g:Option (Nat×Bool)}{nm:Option Nat} (n:Nat)
 (hs:km b (l.take n) s=some (ts,h)) (hd:l.drop n=⟨d,.call f args,g,nm,[]⟩::l2) (hw:wanted ts g=some false)
 (hk:G P b l2 (some (dY ts d .un,h)) K):G P b l s K:=by
 rw[← cD n l]
 refine qq ?_
 rw[hs,hd]
 refine Lt ?_
 rw[mw,hw]
 exact hk
end Go.Am
