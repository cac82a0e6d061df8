/- Rows of numbers that are written to -/
import Derived.Test.YtcfncejilmimpaaGreatVAmS
import Derived.Sort.AssemblyPlain
import Derived.IntWalk
set_option linter.all false
namespace Go.Am
open Go.Sort (swp)
variable {K:Tm->AH->Prop}{P:RP}{Q:AV->AH->Prop}{args:List RO}{b i n o:Nat}{cs vs:List AV}{d:Array Int}{f:FuncId}{g:Option (Nat×Bool)}{h h':AH}{l l2:List ROper}{nm:Option Nat}{s:Option (Tm×AH)}{ts:Tm}{x:Int}
def iu(d:Array Int):List AV:=d.toList.map (AV.int .i64)
theorem iG(d:Array Int):(iu d).length=d.size:=by simp[iu]
def mW(cs:List AV)(o:Nat)(d:Array Int):AO:=.cells (dQ cs o (iu d)) 1 false
theorem rC(hr:o+vs.length<=cs.length)(h:(cs.drop o).take vs.length=vs):dQ cs o vs=cs:=by
 unfold dQ;have h2:cs.drop (o+vs.length)=(cs.drop o).drop vs.length:=by rw[NZ]
 rw[h2]
 conv=>lhs;lhs;rhs;rw[<-h]
 rw[cn,cQ,cQ]
theorem kP(hr:o+vs.length<=cs.length):(dQ cs o vs).length=cs.length:=by
 simp only[dQ,aG,bG,dh];omega
theorem gC(hr:o+vs.length<=cs.length)(i:Nat):(dQ cs o vs)[i]?=if o<=i/\i<o+vs.length then vs[i-o]? else cs[i]?:=by
 unfold dQ;by_cases h1:i<o
 .rw[cn,bE (by rw[bG];omega),cK,if_pos h1,if_neg om]
 .have hl:(cs.take o).length=o:=by rw[bG];omega
  by_cases h2:i<o+vs.length
  .rw[if_pos ⟨om,h2⟩,cn,bp om,hl,bE om]
  .rw[if_neg om,bp (by rw[aG];omega),aG,hl,eG];congr 1;omega
theorem uN{v:AV}(hr:o+vs.length<=cs.length)(hi:i<vs.length):dQ (dQ cs o vs) (o+i) [v]=dQ cs o (vs.set i v):=by
 have hr2:o+(vs.set i v).length<=cs.length:=by rw[cB];exact hr
 have hl:=kP hr;refine cY λk=>?_;rw[gC (by rw[hl];simp only[aA,aQ];omega),gC hr2,gC hr,cB];simp only[aA,aQ];by_cases e:k=o+i
 .subst e;rw[if_pos ⟨ab _,om⟩,if_pos ⟨om,om⟩];have e1:o+i-(o+i)=0:=om;have e2:o+i-o=i:=om;rw[e1,e2,cU om];rfl
 .rw[if_neg om];by_cases h1:o<=k/\k<o+vs.length
  .rw[if_pos h1,if_pos h1,cM om]
  .rw[if_neg h1,if_neg h1]
theorem Lp(hi:i<d.size):(iu d)[i]?=some (.int .i64 d[i]!):=by
 unfold iu;rw[aF,eA,eN hi];simp only[aI,getElem!_pos,hi]
theorem Ik:(iu d).set i (.int .i64 x)=iu (d.setIfInBounds i x):=by
 unfold iu;rw[Array.toList_setIfInBounds,FM]
theorem GV(hg:h.get b=some (mW cs o d))(hr:o+d.size<=cs.length)(hi:i<d.size):ar h b (o+i) 1=some [.int .i64 d[i]!]:=by
 have hr':o+(iu d).length<=cs.length:=by rw[iG];exact hr
 have hk:(dQ cs o (iu d))[o+i]?=some (.int .i64 d[i]!):=by
  rw[gC hr',if_pos ⟨om,by rw[iG];omega⟩];have e2:o+i-o=i:=om;rw[e2,Lp hi]
 obtain⟨hlt,hk⟩:=aM.1 hk;rw[bC hg,if_pos om,cr hlt,hk];rfl
theorem FO(hg:h.get b=some (mW cs o d))(hr:o+d.size<=cs.length)(hi:i<d.size) :
 ∃h',bV h b (o+i) [.int .i64 x]=some h'/\Upd h h' b (mW cs o (d.setIfInBounds i x)):=by
 have hr':o+(iu d).length<=cs.length:=by rw[iG];exact hr
 have e:dQ (dQ cs o (iu d)) (o+i) [.int .i64 x]=dQ cs o (iu (d.setIfInBounds i x)):=by rw[uN hr' (by rw[iG];exact hi),Ik]
 refine⟨_,?_,Oi hg⟩;rw[fI hg,if_pos (by rw[kP hr'];simp only[aA,aQ];omega),e];rfl
theorem JL{j:Nat}(hg:h.get b=some (mW cs o d))(hr:o+d.size<=cs.length)(hi:i<d.size)(hj:j<d.size) :
 ∃h1 h2,bV h b (o+i) [.int .i64 d[j]!]=some h1/\bV h1 b (o+j) [.int .i64 d[i]!]=some h2/\Upd h h2 b (mW cs o (swp d i j)):=by
 obtain⟨h1,w1,u1⟩:=FO (x:=d[j]!) hg hr hi;obtain⟨h2,w2,u2⟩:=FO (x:=d[i]!) (i:=j) u1.get (by simpa using hr) (by simpa using hj);exact⟨h1,h2,w1,w2,u1.trans u2⟩
theorem DD(d:Array Int)(i j:Nat):(swp d i j).size=d.size:=Sort.size_swp d i j
structure Mod(n:Nat)(h h':AH)(s:Nat)(o:AO):Prop where
 nx:h.next<=h'.next
 get:h'.get s=some o
 gt:∀c,c≠s->c<n->h'.get c=h.get c
 ty:∀c,c<n->h'.tyOf c=h.tyOf c
theorem Upd.mod{s:Nat}{o:AO}(a:Upd h h' s o):Mod n h h' s o:=⟨by rw[a.nx];exact ab _,a.get,λc hc _=>a.ne hc,λc _=>a.ty c⟩
theorem Mod.refl{n:Nat}{h:AH}{s:Nat}{o:AO}(hg:h.get s=some o):Mod n h h s o:=⟨ab _,hg,λ_ _ _=>rfl,λ_ _=>rfl⟩
theorem Mod.trans{n:Nat}{h h1 h2:AH}{s:Nat}{o1 o2:AO}(a:Mod n h h1 s o1)(b:Mod n h1 h2 s o2):Mod n h h2 s o2 :=
 ⟨bZ a.nx b.nx,b.get,λc hc hn=>(b.gt c hc hn).trans (a.gt c hc hn),λc hn=>(b.ty c hn).trans (a.ty c hn)⟩
theorem Mod.mono{m:Nat}{s:Nat}{o:AO}(a:Mod n h h' s o)(hm:m<=n):Mod m h h' s o:=⟨a.nx,a.get,λc hc hn=>a.gt c hc om,λc hn=>a.ty c om⟩
theorem Mod.upd{h1 h2:AH}{s:Nat}{o1 o2:AO}(a:Mod n h h1 s o1)(b:Upd h1 h2 s o2):Mod n h h2 s o2:=a.trans b.mod
theorem Mod.toExt{s:Nat}{o:AO}(a:Mod n h h' s o)(hs:n<=s):Ext n h h':=⟨a.nx,λc hc=>a.gt c om hc,a.ty⟩
theorem dW{i:Nat}(hi:i<n):gz ((i:Nat):Int) n=some i:=by
 unfold gz;rw[if_pos ⟨om,om⟩];simp
theorem ft{z:Int}(h1:-9223372036854775808<=z)(h2:z<=9223372036854775807):IntKind.i64.wrap z=z:=IntWalk.i64_in z ⟨h1,h2⟩
theorem bK{d:Option Nat}(n:Nat)
 (hs:lD b (l.take n) s=some (ts,h)) (hd:l.drop n=⟨d,.call f args,g,nm,[]⟩::l2) (hw:wanted ts g=some true) (ha:args.map (RO.ev ts)=vs) (hc:C P f vs h Q)
 (hk:∀v h',Q v h'->G P b l2 (some (dB ts d v,h')) K):G P b l s K:=by
 subst ha;rw[<-cQ n l];refine sg ?_;rw[hs,hd];exact Dx hw (hc.mono hk)
theorem qq{d:Option Nat}
 (hw:wanted ts g=some true) (ha:args.map (RO.ev ts)=vs) (hc:C P f vs h Q) (hk:∀v h',Q v h'->G P b l (some (dB ts d v,h')) K):G P b (⟨d,.call f args,g,nm,[]⟩::l) (some (ts,h)) K:=by
 subst ha;exact Dx hw (hc.mono hk)
theorem ly{d:Option Nat}(n:Nat)
 (hs:lD b (l.take n) s=some (ts,h)) (hd:l.drop n=⟨d,.call f args,g,nm,[]⟩::l2) (hw:wanted ts g=some false)
 (hk:G P b l2 (some (dB ts d .un,h)) K):G P b l s K:=by
 rw[<-cQ n l];refine sg ?_;rw[hs,hd];refine Oa ?_;rw[nG,hw];exact hk
end Go.Am
