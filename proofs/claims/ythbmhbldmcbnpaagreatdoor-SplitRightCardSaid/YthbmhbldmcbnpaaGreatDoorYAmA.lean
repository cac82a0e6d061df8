/- Rows of numbers that are written to -/
import Derived.Test.YthbmhbldmcbnpaaGreatDoorYAmS
import Derived.Sort.AssemblyPlain
import Derived.IntWalk
set_option linter.all false
namespace Go.Am
open Go.Sort (swp)
def ints (d:Array Int):List AV:=d.toList.map (AV.int .i64)
def Dr (cs:List AV) (o:Nat) (d:Array Int):AO:=.cells (dj cs o (ints d)) 1 false
theorem wO {cs:List AV}{o:Nat}{vs:List AV} (hr:o+vs.length≤cs.length) (h:(cs.drop o).take vs.length=vs):dj cs o vs=cs:=by
 unfold dj
 have h2:cs.drop (o+vs.length)=(cs.drop o).drop vs.length:=by rw[List.drop_drop]
 rw[h2]
 conv=>lhs; lhs; rhs; rw[← h]
 rw[cr,bP,bP]
theorem qT {cs:List AV}{o:Nat}{vs:List AV} (hr:o+vs.length≤cs.length):(dj cs o vs).length=cs.length:=by
 simp only[dj,aN,bz,fh]
 omega
theorem kD {cs:List AV}{o:Nat}{vs:List AV} (hr:o+vs.length≤cs.length) (i:Nat):(dj cs o vs)[i]?=if o≤i∧i<o+vs.length then vs[i-o]? else cs[i]?:=by
 unfold dj
 by_cases h1:i<o
 ·rw[cr,bf (by rw[bz]; omega),cE,if_pos h1,if_neg om]
 ·have hl:(cs.take o).length=o:=by rw[bz]; omega
  by_cases h2:i<o+vs.length
  ·rw[if_pos ⟨om,h2⟩,cr,aY om,hl,bf om]
  ·rw[if_neg om,aY (by rw[aN]; omega),aN,hl,dV]
   congr 1
   omega
structure Mod (n:Nat) (h h':AH) (s:Nat) (o:AO):Prop where
 nx:h.next≤h'.next
 get:h'.get s=some o
 gt:∀ c,c≠s→c<n→h'.get c=h.get c
 ty:∀ c,c<n→h'.tyOf c=h.tyOf c
theorem Upd.mod {n:Nat}{h h':AH}{s:Nat}{o:AO} (a:Upd h h' s o):Mod n h h' s o:=⟨by rw[a.nx]; exact ae _,a.get,λc hc _=>a.ne hc,λc _=>a.ty c⟩
theorem Mod.refl {n:Nat}{h:AH}{s:Nat}{o:AO} (hg:h.get s=some o):Mod n h h s o:=⟨ae _,hg,λ_ _ _=>rfl,λ_ _=>rfl⟩
theorem Mod.trans {n:Nat}{h h1 h2:AH}{s:Nat}{o1 o2:AO} (a:Mod n h h1 s o1) (b:Mod n h1 h2 s o2):Mod n h h2 s o2 :=
 ⟨bW a.nx b.nx,b.get,λc hc hn=>(b.gt c hc hn).trans (a.gt c hc hn),λc hn=>(b.ty c hn).trans (a.ty c hn)⟩
theorem Mod.mono {n m:Nat}{h h':AH}{s:Nat}{o:AO} (a:Mod n h h' s o) (hm:m≤n):Mod m h h' s o:=⟨a.nx,a.get,λc hc hn=>a.gt c hc om,λc hn=>a.ty c om⟩
theorem Mod.upd {n:Nat}{h h1 h2:AH}{s:Nat}{o1 o2:AO} (a:Mod n h h1 s o1) (b:Upd h1 h2 s o2):Mod n h h2 s o2:=a.trans b.mod
theorem Mod.ext {n:Nat}{h h1 h2:AH}{s:Nat}{o:AO} (a:Mod n h h1 s o) (hs:s<n) (b:Ext n h1 h2):Mod n h h2 s o :=
 ⟨bW a.nx b.nx,by rw[b.gt _ hs]; exact a.get,λc hc hn=>(b.gt c hn).trans (a.gt c hc hn),λc hn=>(b.ty c hn).trans (a.ty c hn)⟩
theorem Ext.mod {n:Nat}{h h1 h2:AH}{s:Nat}{o:AO} (a:Ext n h h1) (b:Mod n h1 h2 s o):Mod n h h2 s o :=
 ⟨bW a.nx b.nx,b.get,λc hc hn=>(b.gt c hc hn).trans (a.gt c hn),λc hn=>(b.ty c hn).trans (a.ty c hn)⟩
theorem Mod.toExt {n:Nat}{h h':AH}{s:Nat}{o:AO} (a:Mod n h h' s o) (hs:n≤s):Ext n h h':=⟨a.nx,λc hc=>a.gt c om hc,a.ty⟩
theorem cJ {i n:Nat} (hi:i<n):eQ ((i:Nat):Int) n=some i:=by
 unfold eQ
 rw[if_pos ⟨om,om⟩]
 simp
theorem fp {z:Int} (h1:-9223372036854775808≤z) (h2:z≤9223372036854775807):IntKind.i64.wrap z=z:=IntWalk.i64_in z ⟨h1,h2⟩
theorem bg {P:RP}{b:Nat}{l l2:List ROper}{s:Option (Tm×AH)}{K:Tm→AH→Prop}{ts:Tm}{h:AH}{d:Option Nat}{f:FuncId}{args:List RO}{g:Option (Nat×Bool)}{nm:Option Nat}{vs:List AV}{Q:AV→AH→Prop} (n:Nat)
 (hs:jk b (l.take n) s=some (ts,h)) (hd:l.drop n=⟨d,.call f args,g,nm,[]⟩::l2) (hw:wanted ts g=some true) (ha:args.map (RO.ev ts)=vs) (hc:C P f vs h Q)
 (hk:∀ v h',Q v h'→G P b l2 (some (cD ts d v,h')) K):G P b l s K:=by
 subst ha
 rw[← bP n l]
 refine oM ?_
 rw[hs,hd]
 exact wC hw (hc.mono hk)
theorem mU {P:RP}{b:Nat}{l:List ROper}{ts:Tm}{h:AH}{K:Tm→AH→Prop}{d:Option Nat}{f:FuncId}{args:List RO}{g:Option (Nat×Bool)}{nm:Option Nat}{vs:List AV}{Q:AV→AH→Prop}
 (hw:wanted ts g=some true) (ha:args.map (RO.ev ts)=vs) (hc:C P f vs h Q) (hk:∀ v h',Q v h'→G P b l (some (cD ts d v,h')) K):G P b (⟨d,.call f args,g,nm,[]⟩::l) (some (ts,h)) K:=by
 subst ha
 exact wC hw (hc.mono hk)
theorem ee {P:RP}{b:Nat}{l l2:List ROper}{s:Option (Tm×AH)}{K:Tm→AH→Prop}{ts:Tm}{h:AH}{d:Option Nat}{f:FuncId}{args:List RO}{g:Option (Nat×Bool)}{nm:Option Nat} (n:Nat)
 (hs:jk b (l.take n) s=some (ts,h)) (hd:l.drop n=⟨d,.call f args,g,nm,[]⟩::l2) (hw:wanted ts g=some false)
 (hk:G P b l2 (some (cD ts d .un,h)) K):G P b l s K:=by
 rw[← bP n l]
 refine oM ?_
 rw[hs,hd]
 refine GN ?_
 rw[kC,hw]
 exact hk
end Go.Am
