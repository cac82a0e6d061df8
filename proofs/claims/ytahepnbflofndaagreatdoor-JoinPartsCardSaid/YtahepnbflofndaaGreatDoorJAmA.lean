/- Rows of numbers that are written to -/
import Derived.Test.YtahepnbflofndaaGreatDoorJAmS
import Derived.Sort.AssemblyPlain
import Derived.IntWalk
set_option linter.all false
namespace Go.Am
open Go.Sort (swp)
def gc (d:Array Int):List AV:=d.toList.map (AV.int .i64)
theorem fw (d:Array Int):(gc d).length=d.size:=by simp [gc]
def cT (cs:List AV) (o:Nat) (d:Array Int):AO:=.cells (cW cs o (gc d)) 1 false
theorem jt {cs:List AV}{o:Nat}{vs:List AV} (hr:o+vs.length≤cs.length) (h:(cs.drop o).take vs.length=vs):cW cs o vs=cs:=by
 unfold cW
 have h2:cs.drop (o+vs.length)=(cs.drop o).drop vs.length:=by rw[Hx]
 rw[h2]
 conv=>lhs; lhs; rhs; rw[← h]
 rw[dN,cn,cn]
theorem fQ {cs:List AV}{o:Nat}{vs:List AV} (hr:o+vs.length≤cs.length):(cW cs o vs).length=cs.length:=by
 simp only[cW,aM,aZ,dj]
 omega
theorem eY {cs:List AV}{o:Nat}{vs:List AV} (hr:o+vs.length≤cs.length) (i:Nat):(cW cs o vs)[i]?=if o≤i∧i<o+vs.length then vs[i-o]? else cs[i]?:=by
 unfold cW
 by_cases h1:i<o
 ·rw[dN,bC (by rw[aZ]; omega),cL,if_pos h1,if_neg om]
 ·have hl:(cs.take o).length=o:=by rw[aZ]; omega
  by_cases h2:i<o+vs.length
  ·rw[if_pos ⟨om,h2⟩,dN,bu om,hl,bC om]
  ·rw[if_neg om,bu (by rw[aM]; omega),aM,hl,fq]
   congr 1
   omega
theorem mh {cs:List AV}{o i:Nat}{vs:List AV}{v:AV} (hr:o+vs.length≤cs.length) (hi:i<vs.length):cW (cW cs o vs) (o+i) [v]=cW cs o (vs.set i v):=by
 have hr2:o+(vs.set i v).length≤cs.length:=by rw[ce]; exact hr
 have hl:=fQ hr
 refine dD λk=>?_
 rw[eY (by rw[hl]; simp only[aV,bh]; omega),eY hr2,eY hr,ce]
 simp only[aV,bh]
 by_cases e:k=o+i
 ·subst e
  rw[if_pos ⟨ae _,om⟩,if_pos ⟨om,om⟩]
  have e1:o+i-(o+i)=0:=om
  have e2:o+i-o=i:=om
  rw[e1,e2,eA om]
  rfl
 ·rw[if_neg om]
  by_cases h1:o≤k∧k<o+vs.length
  ·rw[if_pos h1,if_pos h1,dq om]
  ·rw[if_neg h1,if_neg h1]
theorem FA {d:Array Int}{i:Nat} (hi:i<d.size):(gc d)[i]?=some (.int .i64 d[i]!):=by
 unfold gc
 rw[be,db,dr hi]
 simp only[aH,getElem!_pos,hi]
theorem CY {d:Array Int}{i:Nat}{x:Int}:(gc d).set i (.int .i64 x)=gc (d.setIfInBounds i x):=by
 unfold gc
 rw[mK,AU]
theorem cq {h:AH}{b o i:Nat}{cs:List AV}{d:Array Int} (hg:h.get b=some (cT cs o d)) (hr:o+d.size≤cs.length) (hi:i<d.size):ar h b (o+i) 1=some [.int .i64 d[i]!]:=by
 have hr':o+(gc d).length≤cs.length:=by rw[fw]; exact hr
 have hk:(cW cs o (gc d))[o+i]?=some (.int .i64 d[i]!):=by
  rw[eY hr',if_pos ⟨om,by rw[fw]; omega⟩]
  have e2:o+i-o=i:=om
  rw[e2,FA hi]
 obtain⟨hlt,hk⟩:=aJ.1 hk
 rw[aS hg,if_pos om,bW hlt,hk]
 rfl
theorem wq {h:AH}{b o i:Nat}{cs:List AV}{d:Array Int}{x:Int} (hg:h.get b=some (cT cs o d)) (hr:o+d.size≤cs.length) (hi:i<d.size) :
 ∃ h',bV h b (o+i) [.int .i64 x]=some h'∧Upd h h' b (cT cs o (d.setIfInBounds i x)):=by
 have hr':o+(gc d).length≤cs.length:=by rw[fw]; exact hr
 have e:cW (cW cs o (gc d)) (o+i) [.int .i64 x]=cW cs o (gc (d.setIfInBounds i x)):=by rw[mh hr' (by rw[fw]; exact hi),CY]
 refine⟨_,?_,HF hg⟩
 rw[dI hg,if_pos (by rw[fQ hr']; simp only[aV,bh]; omega),e]
 rfl
theorem eX {h:AH}{b o i j:Nat}{cs:List AV}{d:Array Int} (hg:h.get b=some (cT cs o d)) (hr:o+d.size≤cs.length) (hi:i<d.size) (hj:j<d.size) :
 ∃ h1 h2,bV h b (o+i) [.int .i64 d[j]!]=some h1∧bV h1 b (o+j) [.int .i64 d[i]!]=some h2∧Upd h h2 b (cT cs o (swp d i j)):=by
 obtain⟨h1,w1,u1⟩:=wq (x:=d[j]!) hg hr hi
 obtain⟨h2,w2,u2⟩:=wq (x:=d[i]!) (i:=j) u1.get (by simpa using hr) (by simpa using hj)
 exact⟨h1,h2,w1,w2,u1.trans u2⟩
theorem cA (d:Array Int) (i j:Nat):(swp d i j).size=d.size:=Sort.size_swp d i j
structure Mod (n:Nat) (h h':AH) (s:Nat) (o:AO):Prop where
 nx:h.next≤h'.next
 get:h'.get s=some o
 gt:∀ c,c≠s→c<n→h'.get c=h.get c
 ty:∀ c,c<n→h'.tyOf c=h.tyOf c
theorem Upd.mod {n:Nat}{h h':AH}{s:Nat}{o:AO} (a:Upd h h' s o):Mod n h h' s o:=⟨by rw[a.nx]; exact ae _,a.get,λc hc _=>a.ne hc,λc _=>a.ty c⟩
theorem Mod.refl {n:Nat}{h:AH}{s:Nat}{o:AO} (hg:h.get s=some o):Mod n h h s o:=⟨ae _,hg,λ_ _ _=>rfl,λ_ _=>rfl⟩
theorem Mod.trans {n:Nat}{h h1 h2:AH}{s:Nat}{o1 o2:AO} (a:Mod n h h1 s o1) (b:Mod n h1 h2 s o2):Mod n h h2 s o2 :=
 ⟨bS a.nx b.nx,b.get,λc hc hn=>(b.gt c hc hn).trans (a.gt c hc hn),λc hn=>(b.ty c hn).trans (a.ty c hn)⟩
theorem Mod.mono {n m:Nat}{h h':AH}{s:Nat}{o:AO} (a:Mod n h h' s o) (hm:m≤n):Mod m h h' s o:=⟨a.nx,a.get,λc hc hn=>a.gt c hc om,λc hn=>a.ty c om⟩
theorem Mod.upd {n:Nat}{h h1 h2:AH}{s:Nat}{o1 o2:AO} (a:Mod n h h1 s o1) (b:Upd h1 h2 s o2):Mod n h h2 s o2:=a.trans b.mod
theorem Mod.ext {n:Nat}{h h1 h2:AH}{s:Nat}{o:AO} (a:Mod n h h1 s o) (hs:s<n) (b:Ext n h1 h2):Mod n h h2 s o :=
 ⟨bS a.nx b.nx,by rw[b.gt _ hs]; exact a.get,λc hc hn=>(b.gt c hn).trans (a.gt c hc hn),λc hn=>(b.ty c hn).trans (a.ty c hn)⟩
theorem Ext.mod {n:Nat}{h h1 h2:AH}{s:Nat}{o:AO} (a:Ext n h h1) (b:Mod n h1 h2 s o):Mod n h h2 s o :=
 ⟨bS a.nx b.nx,b.get,λc hc hn=>(b.gt c hc hn).trans (a.gt c hn),λc hn=>(b.ty c hn).trans (a.ty c hn)⟩
theorem Mod.toExt {n:Nat}{h h':AH}{s:Nat}{o:AO} (a:Mod n h h' s o) (hs:n≤s):Ext n h h':=⟨a.nx,λc hc=>a.gt c om hc,a.ty⟩
theorem aO {i n:Nat} (hi:i<n):bN ((i:Nat):Int) n=some i:=by
 unfold bN
 rw[if_pos ⟨om,om⟩]
 simp
theorem bE {z:Int} (h1:-9223372036854775808≤z) (h2:z≤9223372036854775807):IntKind.i64.wrap z=z:=IntWalk.i64_in z ⟨h1,h2⟩
theorem aP {P:RP}{b:Nat}{l l2:List ROper}{s:Option (Tm×AH)}{K:Tm→AH→Prop}{ts:Tm}{h:AH}{d:Option Nat}{f:FuncId}{args:List RO}{g:Option (Nat×Bool)}{nm:Option Nat}{vs:List AV}{Q:AV→AH→Prop} (n:Nat)
 (hs:iQ b (l.take n) s=some (ts,h)) (hd:l.drop n=⟨d,.call f args,g,nm,[]⟩::l2) (hw:wanted ts g=some true) (ha:args.map (RO.ev ts)=vs) (hc:C P f vs h Q)
 (hk:∀ v h',Q v h'→G P b l2 (some (cI ts d v,h')) K):G P b l s K:=by
 subst ha
 rw[← cn n l]
 refine oM ?_
 rw[hs,hd]
 exact uc hw (hc.mono hk)
theorem kU {P:RP}{b:Nat}{l:List ROper}{ts:Tm}{h:AH}{K:Tm→AH→Prop}{d:Option Nat}{f:FuncId}{args:List RO}{g:Option (Nat×Bool)}{nm:Option Nat}{vs:List AV}{Q:AV→AH→Prop}
 (hw:wanted ts g=some true) (ha:args.map (RO.ev ts)=vs) (hc:C P f vs h Q) (hk:∀ v h',Q v h'→G P b l (some (cI ts d v,h')) K):G P b (⟨d,.call f args,g,nm,[]⟩::l) (some (ts,h)) K:=by
 subst ha
 exact uc hw (hc.mono hk)
theorem dF {P:RP}{b:Nat}{l l2:List ROper}{s:Option (Tm×AH)}{K:Tm→AH→Prop}{ts:Tm}{h:AH}{d:Option Nat}{f:FuncId}{args:List RO}{g:Option (Nat×Bool)}{nm:Option Nat} (n:Nat)
 (hs:iQ b (l.take n) s=some (ts,h)) (hd:l.drop n=⟨d,.call f args,g,nm,[]⟩::l2) (hw:wanted ts g=some false)
 (hk:G P b l2 (some (cI ts d .un,h)) K):G P b l s K:=by
 rw[← cn n l]
 refine oM ?_
 rw[hs,hd]
 refine Gy ?_
 rw[ll,hw]
 exact hk
end Go.Am
